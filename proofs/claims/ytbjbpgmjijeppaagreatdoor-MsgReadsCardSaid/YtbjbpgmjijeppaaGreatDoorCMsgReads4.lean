/- A part of the proof of this sentence: The message that any bytes are, or why there is none, and how it is written, are as the document has them; the tables of unicode/utf8 are as the program's text lays them. -/
import Derived.Test.YtbjbpgmjijeppaaGreatDoorCMsgReads3
namespace Go.Proofs.YtbjbpgmjijeppaaGreatDoor.Fn
open Go.RowKit Go.Proofs.YtbjbpgmjijeppaaGreatDoorW.PrintWords Go.Proofs.YtbjbpgmjijeppaaGreatDoorW.PrintLast Go.Proofs.YtbjbpgmjijeppaaGreatDoorW.PrintMore
attribute [local go_sem] max2_int min2_int max_two min_two max_three min_three max_four min_four
set_option linter.unusedVariables false
set_option linter.unusedSimpArgs false

def bulletinlaw16_works.f (k : Nat)  : Option (Bool) := (msg_Parse.f k (⟨#[70, 114, 111, 109, 58, 32, 65, 110, 110, 32, 60, 97, 64, 98, 62, 13, 10, 13, 10, 104, 105, 13, 10]⟩ : ByteArray)).bind fun bt289 => ((msg_Message_From.f k bt289.1 bt289.2.1).bind fun bt295 => ((msg_Message_Lines.f k bt289.1 bt289.2.1).bind fun t300 => (if bt289.2.2 = 0 then (if bt295.2.2.2 = 0 then (if bt295.1.toList = ([65, 110, 110] : List UInt8) then (if bt295.2.1.toList = ([97] : List UInt8) then (if (t300.length : Int) = 1 then (if 0 < (t300.length : Int) then (if (rdOf ByteArray.empty t300 0).toList = ([104, 105] : List UInt8) then ((msg_Message_Text.f bt289.1 bt289.2.1).bind fun t304 => (some (t304.toList == ([70, 114, 111, 109, 58, 32, 65, 110, 110, 32, 60, 97, 64, 98, 62, 13, 10, 13, 10, 104, 105, 13, 10] : List UInt8)))) else (some false)) else (none)) else (some false)) else (some false)) else (some false)) else (some false)) else (some false))))
theorem bulletinlaw16_works.mono : ∀ k, LeO (bulletinlaw16_works.f k ) (bulletinlaw16_works.f (k + 1) ) := by
 intro  k; unfold bulletinlaw16_works.f
 repeat' first
   | (with_reducible exact msg_Message_From.mono _ _ _)
   | (with_reducible exact msg_Message_Lines.mono _ _ _)
   | (with_reducible exact msg_Parse.mono _ _)
   | (with_reducible exact LeO.refl _)
   | (with_reducible exact LeO.none _)
   | (with_reducible refine LeO.ite ?_ ?_)
   | (with_reducible refine LeO.bind ?_ (fun _ => ?_))
   | exact msg_Message_From.mono _ _ _
   | exact msg_Message_Lines.mono _ _ _
   | exact msg_Parse.mono _ _
   | exact LeO.none _
   | refine LeO.ite ?_ ?_
   | refine LeO.bind ?_ (fun _ => ?_)
set_option maxHeartbeats 8000000 in
set_option maxRecDepth 100000 in
theorem bulletinlaw16_works.calls (k : Nat)  (r : Bool) (w : World) (hG : Glob w) (h : bulletinlaw16_works.f k  = some r) :
  Calls Tryz.prog 9 #[] w fun e w' => e = .returned (.bool r) ∧ Below w.heap.size w w' := by
 have hu25 := Tryz.underlying25; have hu53 := Tryz.underlying53; have HB := Aside0.mk (Below.refl w.heap.size w); have H : ((msg_Parse.f k (⟨#[70, 114, 111, 109, 58, 32, 65, 110, 110, 32, 60, 97, 64, 98, 62, 13, 10, 13, 10, 104, 105, 13, 10]⟩ : ByteArray)).bind fun bt289 => ((msg_Message_From.f k bt289.1 bt289.2.1).bind fun bt295 => ((msg_Message_Lines.f k bt289.1 bt289.2.1).bind fun t300 => (if bt289.2.2 = 0 then (if bt295.2.2.2 = 0 then (if bt295.1.toList = ([65, 110, 110] : List UInt8) then (if bt295.2.1.toList = ([97] : List UInt8) then (if (t300.length : Int) = 1 then (if 0 < (t300.length : Int) then (if (rdOf ByteArray.empty t300 0).toList = ([104, 105] : List UInt8) then ((msg_Message_Text.f bt289.1 bt289.2.1).bind fun t304 => (some (t304.toList == ([70, 114, 111, 109, 58, 32, 65, 110, 110, 32, 60, 97, 64, 98, 62, 13, 10, 13, 10, 104, 105, 13, 10] : List UInt8)))) else (some false)) else (none)) else (some false)) else (some false)) else (some false)) else (some false)) else (some false))))) = some r := h; clear h; replace H := Option.bind_eq_some_iff.mp H; obtain ⟨⟨t289, t292, t293⟩, A10, H⟩ := H; replace H : ((msg_Message_From.f k t289 t292).bind fun bt295 => ((msg_Message_Lines.f k t289 t292).bind fun t300 => (if t293 = 0 then (if bt295.2.2.2 = 0 then (if bt295.1.toList = ([65, 110, 110] : List UInt8) then (if bt295.2.1.toList = ([97] : List UInt8) then (if (t300.length : Int) = 1 then (if 0 < (t300.length : Int) then (if (rdOf ByteArray.empty t300 0).toList = ([104, 105] : List UInt8) then ((msg_Message_Text.f t289 t292).bind fun t304 => (some (t304.toList == ([70, 114, 111, 109, 58, 32, 65, 110, 110, 32, 60, 97, 64, 98, 62, 13, 10, 13, 10, 104, 105, 13, 10] : List UInt8)))) else (some false)) else (none)) else (some false)) else (some false)) else (some false)) else (some false)) else (some false)))) = some r := H; have A1 := Aside0.mk A10; clear A10; replace H := Option.bind_eq_some_iff.mp H; obtain ⟨⟨t295, t296, t297, t298⟩, A20, H⟩ := H; replace H : ((msg_Message_Lines.f k t289 t292).bind fun t300 => (if t293 = 0 then (if t298 = 0 then (if t295.toList = ([65, 110, 110] : List UInt8) then (if t296.toList = ([97] : List UInt8) then (if (t300.length : Int) = 1 then (if 0 < (t300.length : Int) then (if (rdOf ByteArray.empty t300 0).toList = ([104, 105] : List UInt8) then ((msg_Message_Text.f t289 t292).bind fun t304 => (some (t304.toList == ([70, 114, 111, 109, 58, 32, 65, 110, 110, 32, 60, 97, 64, 98, 62, 13, 10, 13, 10, 104, 105, 13, 10] : List UInt8)))) else (some false)) else (none)) else (some false)) else (some false)) else (some false)) else (some false)) else (some false))) = some r := H; have A2 := Aside0.mk A20; clear A20; replace H := Option.bind_eq_some_iff.mp H; obtain ⟨t300, A30, H⟩ := H; replace H : (if t293 = 0 then (if t298 = 0 then (if t295.toList = ([65, 110, 110] : List UInt8) then (if t296.toList = ([97] : List UInt8) then (if (t300.length : Int) = 1 then (if 0 < (t300.length : Int) then (if (rdOf ByteArray.empty t300 0).toList = ([104, 105] : List UInt8) then ((msg_Message_Text.f t289 t292).bind fun t304 => (some (t304.toList == ([70, 114, 111, 109, 58, 32, 65, 110, 110, 32, 60, 97, 64, 98, 62, 13, 10, 13, 10, 104, 105, 13, 10] : List UInt8)))) else (some false)) else (none)) else (some false)) else (some false)) else (some false)) else (some false)) else (some false)) = some r := H; have A3 := Aside0.mk A30; clear A30
 by_cases c4 : t293 = 0
 ·rw [if_pos c4] at H; have c4b0 : (t293 == 0) = true := beq_iff_eq.mpr c4; have c4b1 : (t293 != 0) = false := bne_eq_false_iff_eq.mpr c4; clear c4
  by_cases c5 : t298 = 0
  ·rw [if_pos c5] at H; have c5b0 : (t298 == 0) = true := beq_iff_eq.mpr c5; have c5b1 : (t298 != 0) = false := bne_eq_false_iff_eq.mpr c5; clear c5
   by_cases c6 : t295.toList = ([65, 110, 110] : List UInt8)
   ·rw [if_pos c6] at H; have c6b0 : (t295.toList == ([65, 110, 110] : List UInt8)) = true := beq_iff_eq.mpr c6; have c6b1 : (t295.toList != ([65, 110, 110] : List UInt8)) = false := bne_eq_false_iff_eq.mpr c6; clear c6
    by_cases c7 : t296.toList = ([97] : List UInt8)
    ·rw [if_pos c7] at H; have c7b0 : (t296.toList == ([97] : List UInt8)) = true := beq_iff_eq.mpr c7; have c7b1 : (t296.toList != ([97] : List UInt8)) = false := bne_eq_false_iff_eq.mpr c7; clear c7
     by_cases c8 : (t300.length : Int) = 1
     ·rw [if_pos c8] at H; have c8b0 : ((t300.length : Int) == 1) = true := beq_iff_eq.mpr c8; have c8b1 : ((t300.length : Int) != 1) = false := bne_eq_false_iff_eq.mpr c8; clear c8
      by_cases c9 : 0 < (t300.length : Int)
      ·rw [if_pos c9] at H; have c9b0 : decide (0 < (t300.length : Int)) = true := decide_eq_true c9; have c9b1 : decide (0 < t300.length) = true := decide_eq_true (by omega); clear c9
       by_cases c10 : (rdOf ByteArray.empty t300 0).toList = ([104, 105] : List UInt8)
       ·rw [if_pos c10] at H; have c10b0 : ((rdOf ByteArray.empty t300 0).toList == ([104, 105] : List UInt8)) = true := beq_iff_eq.mpr c10; have c10b1 : ((rdOf ByteArray.empty t300 0).toList != ([104, 105] : List UInt8)) = false := bne_eq_false_iff_eq.mpr c10; clear c10; replace H := Option.bind_eq_some_iff.mp H; obtain ⟨t304, A110, H⟩ := H; replace H : (some (t304.toList == ([70, 114, 111, 109, 58, 32, 65, 110, 110, 32, 60, 97, 64, 98, 62, 13, 10, 13, 10, 104, 105, 13, 10] : List UInt8))) = some r := H; have A11 := Aside0.mk A110; clear A110; obtain rfl := Option.some.inj H
        go_enter Tryz.func9, Tryz.ntmps9
        go_wp2_with (first | ((with_reducible refine gate_callee (f := 10) rfl ?_); refine goesL_ (some 7) rfl rfl Tryz.func10 (by kernel_rfl) rfl #[.string (⟨#[70, 114, 111, 109, 58, 32, 65, 110, 110, 32, 60, 97, 64, 98, 62, 13, 10, 13, 10, 104, 105, 13, 10]⟩ : ByteArray)] rfl am ?_; (with_reducible refine (msg_Parse.calls (hG := by first | exact hG | exact Glob.below hG (by first | exact HB.out | (repeat (first | (with_reducible first | exact HB.out | apply below_alloc | apply pw_below_drewN | apply below_drew1 | refine below_set ?_ GE294.out | refine below_set ?_ GE299.out) | exact HB.out))) | exact Glob.drawn hG (d0)) k (⟨#[70, 114, 111, 109, 58, 32, 65, 110, 110, 32, 60, 97, 64, 98, 62, 13, 10, 13, 10, 104, 105, 13, 10]⟩ : ByteArray) t289 t292 t293 _ A1.out).mono ?_); rintro e w12 ⟨v290, rfl, ho0, hb⟩; refine ⟨_, rfl, ?_⟩; have n0_ := Aside0.mk (Kd.R_lower ho0 (below_size bw)); have n1_ := Aside0.mk (below_step bw hb); clear HB; have HO291 := n0_; have HB := n1_; clear n0_ n1_; (try clear hb); (try clear hb2); (try clear hk); (try clear hi); (try clear ho0)) | ((with_reducible refine gate_dst (N := 1) rfl ?_); (try (refine gate_guard (by rfl) ?_; dsimp only)); refine box_event ?hg (N := 1) ?hd (cs := #[.slice none 0 0, .string (⟨#[]⟩ : ByteArray)]) (t := 25) ?hr ?_; (case hd => rfl); (case hg => rfl); (case hr => first | (go_simp; done) | (go_simp; rfl)); intro gb294 hg w13 hbox hb; have n0_ := Aside0.mk (Kd.R_below (ra HO291.out) hb); have n1_ := Aside0.mk (below_step bw hb); have n2_ := Aside0.mk (hbox); have n3_ := Aside0.mk ((by rw [hg]; exact (below_size bw) : w.heap.size ≤ gb294)); have n4_ := Aside0.mk ((by rw [hg]; exact (below_size bw) : w.heap.size ≤ gb294)); clear HO291; clear HB; have HO291 := n0_; have HB := n1_; have BK294 := n2_; have GW294 := n3_; have GE294 := n4_; clear n0_ n1_ n2_ n3_ n4_; clear hb hbox hg; obtain ⟨Ao14, co14, eo14⟩ := Kd.R_slice HO291.out; subst eo14; have hcz15_0 : w13.cell? ⟨gb294, 0, none⟩ = some (.slice none 0 0) := (blk_cell BK294.out 0).trans rfl; have hcz15_1 : w13.cell? ⟨gb294, 1, none⟩ = some (.string (⟨#[]⟩ : ByteArray)) := (blk_cell BK294.out 1).trans rfl; have hfz15_0 := blk_frozen BK294.out 0; have hfz15_1 := blk_frozen BK294.out 1) | ((with_reducible refine gate_callee (f := 22) rfl ?_); refine goesL_ (some 12) rfl rfl Tryz.func22 (by kernel_rfl) rfl #[.agg #[.slice Ao14 t289.length co14, .string t292]] rfl am ?_; (with_reducible refine (msg_Message_From.calls (hG := by first | exact hG | exact Glob.below hG (by first | exact HB.out | (repeat (first | (with_reducible first | exact HB.out | apply below_alloc | apply pw_below_drewN | apply below_drew1 | refine below_set ?_ GE294.out | refine below_set ?_ GE299.out) | exact HB.out))) | exact Glob.drawn hG (d0)) k _ _ t289 t292 t295 t296 t297 t298 _ ?side1 ?side2 A2.out).mono ?_); (case side1 => refine (Kd.R_reads' (e := 46) (base := w.heap.size) (ok := fun k_ => True) (n := t289.length) (c := co14) ?_).2.2; exact (by (with_reducible repeat (first | apply Kd.R_alloc | apply Kd.R_drewN | apply Kd.R_drew)); exact (Kd.R_mono (Kd.R_far (p := ⟨gb294, 1, none⟩) (Kd.R_far (p := ⟨gb294, 0, none⟩) (Kd.R_types HO291.out BK294.out (by decide)) (fun _ hk => hk.2) (.slice Ao14 t289.length co14)) (fun _ hk => hk.2) (.string t292)) (fun _ h_ => h_.1)))); (case side2 => exact (Kd.R_reads' HO291.out).2.1); rintro e w16 ⟨rfl, hb⟩; refine ⟨_, rfl, ?_⟩; have n0_ := Aside0.mk (Kd.R_below (by (with_reducible repeat (first | apply Kd.R_alloc | apply Kd.R_drewN | apply Kd.R_drew)); exact (Kd.R_mono (Kd.R_far (p := ⟨gb294, 1, none⟩) (Kd.R_far (p := ⟨gb294, 0, none⟩) (Kd.R_types HO291.out BK294.out (by decide)) (fun _ hk => hk.2) (.slice Ao14 t289.length co14)) (fun _ hk => hk.2) (.string t292)) (fun _ h_ => h_.1))) hb); have n1_ := Aside0.mk (blk_below (g := gb294) (o := .cells #[.slice Ao14 t289.length co14, .string t292] 25 (0, 0)) (by (with_reducible repeat (first | refine blk_drewN ?_ _ | refine blk_drew ?_ | refine blk_alloc ?_ _)); refine blk_put (cs := #[.slice Ao14 t289.length co14, .string (⟨#[]⟩ : ByteArray)]) ?_ 1 _ rfl; (with_reducible repeat (first | refine blk_drewN ?_ _ | refine blk_drew ?_ | refine blk_alloc ?_ _)); exact blk_put (cs := #[.slice none 0 0, .string (⟨#[]⟩ : ByteArray)]) bk 0 _ rfl) hb); have n2_ := Aside0.mk (below_step bwS hb); clear HO291; clear BK294; clear HB; have HO291 := n0_; have BK294 := n1_; have HB := n2_; clear n0_ n1_ n2_; (try clear hb); (try clear hb2); (try clear hk); (try clear hi)) | ((with_reducible refine gate_dst (N := 3) rfl ?_); (try (refine gate_guard (by rfl) ?_; dsimp only)); refine box_event ?hg (N := 3) ?hd (cs := #[.string (⟨#[]⟩ : ByteArray), .string (⟨#[]⟩ : ByteArray), .string (⟨#[]⟩ : ByteArray)]) (t := 53) ?hr ?_; (case hd => rfl); (case hg => rfl); (case hr => first | (go_simp; done) | (go_simp; rfl)); intro gb299 hg w17 hbox hb; have n0_ := Aside0.mk (Kd.R_below (ra HO291.out) hb); have n1_ := Aside0.mk (blk_below (g := gb294) (o := .cells #[.slice Ao14 t289.length co14, .string t292] 25 (0, 0)) bk hb); have n2_ := Aside0.mk (below_step bwS hb); have n3_ := Aside0.mk (hbox); have n4_ := Aside0.mk ((by rw [hg]; exact (below_size bwS) : w.heap.size ≤ gb299)); have n5_ := Aside0.mk ((by rw [hg]; exact (below_size bwS) : w.heap.size ≤ gb299)); have n6_ := Aside0.mk ((by rw [hg]; exact Nat.ne_of_lt (blk_lt (g := gb294) (o := .cells #[.slice Ao14 t289.length co14, .string t292] 25 (0, 0)) bk) : gb294 ≠ gb299)); have n7_ := Aside0.mk ((by rw [hg]; exact Nat.ne_of_gt (blk_lt (g := gb294) (o := .cells #[.slice Ao14 t289.length co14, .string t292] 25 (0, 0)) bk) : gb299 ≠ gb294)); clear HO291; clear BK294; clear HB; have HO291 := n0_; have BK294 := n1_; have HB := n2_; have BK299 := n3_; have GW299 := n4_; have GE299 := n5_; have NB294_299 := n6_; have NB299_294 := n7_; clear n0_ n1_ n2_ n3_ n4_ n5_ n6_ n7_; clear hb hbox hg; have hnb18 := NB299_294.out; have hnc18 := NB294_299.out; have hcz19_0 : w17.cell? ⟨gb299, 0, none⟩ = some (.string (⟨#[]⟩ : ByteArray)) := (blk_cell BK299.out 0).trans rfl; have hcz19_1 : w17.cell? ⟨gb299, 1, none⟩ = some (.string (⟨#[]⟩ : ByteArray)) := (blk_cell BK299.out 1).trans rfl; have hcz19_2 : w17.cell? ⟨gb299, 2, none⟩ = some (.string (⟨#[]⟩ : ByteArray)) := (blk_cell BK299.out 2).trans rfl; have hfz19_0 := blk_frozen BK299.out 0; have hfz19_1 := blk_frozen BK299.out 1; have hfz19_2 := blk_frozen BK299.out 2; have hcz20_0 : w17.cell? ⟨gb294, 0, none⟩ = some (.slice Ao14 t289.length co14) := (blk_cell BK294.out 0).trans rfl; have hcz20_1 : w17.cell? ⟨gb294, 1, none⟩ = some (.string t292) := (blk_cell BK294.out 1).trans rfl; have hfz20_0 := blk_frozen BK294.out 0; have hfz20_1 := blk_frozen BK294.out 1) | ((with_reducible refine gate_callee (f := 16) rfl ?_); refine goesL_ (some 16) rfl rfl Tryz.func16 (by kernel_rfl) rfl #[.agg #[.slice Ao14 t289.length co14, .string t292]] rfl am ?_; (with_reducible refine (msg_Message_Lines.calls (hG := by first | exact hG | exact Glob.below hG (by first | exact HB.out | (repeat (first | (with_reducible first | exact HB.out | apply below_alloc | apply pw_below_drewN | apply below_drew1 | refine below_set ?_ GE294.out | refine below_set ?_ GE299.out) | exact HB.out))) | exact Glob.drawn hG (d0)) k _ _ t289 t292 t300 _ ?side1 ?side2 A3.out).mono ?_); (case side1 => refine (Kd.R_reads' (e := 46) (base := w.heap.size) (ok := fun k_ => True) (n := t289.length) (c := co14) ?_).2.2; exact (by (with_reducible repeat (first | apply Kd.R_alloc | apply Kd.R_drewN | apply Kd.R_drew)); exact (Kd.R_mono (Kd.R_far (p := ⟨gb299, 2, none⟩) (Kd.R_far (p := ⟨gb299, 1, none⟩) (Kd.R_far (p := ⟨gb299, 0, none⟩) (Kd.R_types HO291.out BK299.out (by decide)) (fun _ hk => hk.2) (.string t295)) (fun _ hk => hk.2) (.string t296)) (fun _ hk => hk.2) (.string t297)) (fun _ h_ => h_.1)))); (case side2 => exact (Kd.R_reads' HO291.out).2.1); rintro e w21 ⟨v301, rfl, ho0, hb⟩; refine ⟨_, rfl, ?_⟩; have n0_ := Aside0.mk (Kd.R_below (by (with_reducible repeat (first | apply Kd.R_alloc | apply Kd.R_drewN | apply Kd.R_drew)); exact (Kd.R_mono (Kd.R_far (p := ⟨gb299, 2, none⟩) (Kd.R_far (p := ⟨gb299, 1, none⟩) (Kd.R_far (p := ⟨gb299, 0, none⟩) (Kd.R_types HO291.out BK299.out (by decide)) (fun _ hk => hk.2) (.string t295)) (fun _ hk => hk.2) (.string t296)) (fun _ hk => hk.2) (.string t297)) (fun _ h_ => h_.1))) hb); have n1_ := Aside0.mk (Kd.R_lower ho0 (below_size bwS)); have n2_ := Aside0.mk (blk_below (g := gb294) (o := .cells #[.slice Ao14 t289.length co14, .string t292] 25 (0, 0)) (by (with_reducible repeat (first | refine blk_drewN ?_ _ | refine blk_drew ?_ | refine blk_alloc ?_ _)); refine blk_far ?_ NB294_299.out _; (with_reducible repeat (first | refine blk_drewN ?_ _ | refine blk_drew ?_ | refine blk_alloc ?_ _)); refine blk_far ?_ NB294_299.out _; (with_reducible repeat (first | refine blk_drewN ?_ _ | refine blk_drew ?_ | refine blk_alloc ?_ _)); refine blk_far ?_ NB294_299.out _; (with_reducible repeat (first | refine blk_drewN ?_ _ | refine blk_drew ?_ | refine blk_alloc ?_ _)); exact BK294.out) hb); have n3_ := Aside0.mk (blk_below (g := gb299) (o := .cells #[.string t295, .string t296, .string t297] 53 (0, 0)) (by (with_reducible repeat (first | refine blk_drewN ?_ _ | refine blk_drew ?_ | refine blk_alloc ?_ _)); refine blk_put (cs := #[.string t295, .string t296, .string (⟨#[]⟩ : ByteArray)]) ?_ 2 _ rfl; (with_reducible repeat (first | refine blk_drewN ?_ _ | refine blk_drew ?_ | refine blk_alloc ?_ _)); refine blk_put (cs := #[.string t295, .string (⟨#[]⟩ : ByteArray), .string (⟨#[]⟩ : ByteArray)]) ?_ 1 _ rfl; (with_reducible repeat (first | refine blk_drewN ?_ _ | refine blk_drew ?_ | refine blk_alloc ?_ _)); exact blk_put (cs := #[.string (⟨#[]⟩ : ByteArray), .string (⟨#[]⟩ : ByteArray), .string (⟨#[]⟩ : ByteArray)]) bk 0 _ rfl) hb); have n4_ := Aside0.mk (below_step bwS hb); clear HO291; clear BK294; clear BK299; clear HB; have HO291 := n0_; have HO302 := n1_; have BK294 := n2_; have BK299 := n3_; have HB := n4_; clear n0_ n1_ n2_ n3_ n4_; (try clear hb); (try clear hb2); (try clear hk); (try clear hi); (try clear ho0); have hcz22_0 : w21.cell? ⟨gb299, 0, none⟩ = some (.string t295) := (blk_cell BK299.out 0).trans rfl; have hcz22_1 : w21.cell? ⟨gb299, 1, none⟩ = some (.string t296) := (blk_cell BK299.out 1).trans rfl; have hcz22_2 : w21.cell? ⟨gb299, 2, none⟩ = some (.string t297) := (blk_cell BK299.out 2).trans rfl; have hfz22_0 := blk_frozen BK299.out 0; have hfz22_1 := blk_frozen BK299.out 1; have hfz22_2 := blk_frozen BK299.out 2; obtain ⟨Ao23, co23, eo23⟩ := Kd.R_slice HO302.out; subst eo23; have p303 : 0 ≤ (0 : Int) := (by omega); have q303 : 0 < (t300.length : Int) := od; obtain ⟨ad303, e303, hx303_0⟩ := Kd.at_string (Kd.R_reads' HO302.out).2.2 0 p303 q303; cases e303; have qi303 : (0 < t300.length) = True := eq_true (by omega); (try rw [show ((0 : Int)).toNat = 0 from rfl] at hx303_0); (try rw [Addr.add_zero'] at hx303_0); replace p303 := eq_true p303; replace q303 := eq_true q303; have hcz24_0 : w21.cell? ⟨gb294, 0, none⟩ = some (.slice Ao14 t289.length co14) := (blk_cell BK294.out 0).trans rfl; have hcz24_1 : w21.cell? ⟨gb294, 1, none⟩ = some (.string t292) := (blk_cell BK294.out 1).trans rfl; have hfz24_0 := blk_frozen BK294.out 0; have hfz24_1 := blk_frozen BK294.out 1) | (go_at_call 13; (with_reducible refine (msg_Message_Text.calls _ _ t289 t292 t304 _ ?side1 ?side2 A11.out).mono ?_); (case side1 => repeat (first | exact (Kd.R_reads' HO291.out).2.2 | (with_reducible refine Kd.C_alloc ?_ _) | (with_reducible refine Kd.C_drewN ?_ _) | (with_reducible refine Kd.C_drew ?_))); (case side2 => exact (Kd.R_reads' HO291.out).2.1); rintro e w25 ⟨rfl, hb⟩; have n0_ := Aside0.mk (Kd.R_below (ra HO291.out) hb); have n1_ := Aside0.mk (Kd.R_below (ra HO302.out) hb); have n2_ := Aside0.mk (blk_below (g := gb294) (o := .cells #[.slice Ao14 t289.length co14, .string t292] 25 (0, 0)) bk hb); have n3_ := Aside0.mk (blk_below (g := gb299) (o := .cells #[.string t295, .string t296, .string t297] 53 (0, 0)) bk hb); have n4_ := Aside0.mk (below_step bwS hb); clear HO291; clear HO302; clear BK294; clear BK299; clear HB; have HO291 := n0_; have HO302 := n1_; have BK294 := n2_; have BK299 := n3_; have HB := n4_; clear n0_ n1_ n2_ n3_ n4_; (try clear hb); (try clear hb2); (try clear hk); (try clear hi)))
        go_ret
        exact ⟨ew, bwS⟩
       ·rw [if_neg c10] at H; have c10b0 : ((rdOf ByteArray.empty t300 0).toList == ([104, 105] : List UInt8)) = false := beq_eq_false_iff_ne.mpr c10; have c10b1 : ((rdOf ByteArray.empty t300 0).toList != ([104, 105] : List UInt8)) = true := bne_iff_ne.mpr c10; obtain rfl := Option.some.inj H
        go_enter Tryz.func9, Tryz.ntmps9
        go_wp2_with (first | ((with_reducible refine gate_callee (f := 10) rfl ?_); refine goesL_ (some 7) rfl rfl Tryz.func10 (by kernel_rfl) rfl #[.string (⟨#[70, 114, 111, 109, 58, 32, 65, 110, 110, 32, 60, 97, 64, 98, 62, 13, 10, 13, 10, 104, 105, 13, 10]⟩ : ByteArray)] rfl am ?_; (with_reducible refine (msg_Parse.calls (hG := by first | exact hG | exact Glob.below hG (by first | exact HB.out | (repeat (first | (with_reducible first | exact HB.out | apply below_alloc | apply pw_below_drewN | apply below_drew1 | refine below_set ?_ GE294.out | refine below_set ?_ GE299.out) | exact HB.out))) | exact Glob.drawn hG (d0)) k (⟨#[70, 114, 111, 109, 58, 32, 65, 110, 110, 32, 60, 97, 64, 98, 62, 13, 10, 13, 10, 104, 105, 13, 10]⟩ : ByteArray) t289 t292 t293 _ A1.out).mono ?_); rintro e w26 ⟨v290, rfl, ho0, hb⟩; refine ⟨_, rfl, ?_⟩; have n0_ := Aside0.mk (Kd.R_lower ho0 (below_size bw)); have n1_ := Aside0.mk (below_step bw hb); clear HB; have HO291 := n0_; have HB := n1_; clear n0_ n1_; (try clear hb); (try clear hb2); (try clear hk); (try clear hi); (try clear ho0)) | ((with_reducible refine gate_dst (N := 1) rfl ?_); (try (refine gate_guard (by rfl) ?_; dsimp only)); refine box_event ?hg (N := 1) ?hd (cs := #[.slice none 0 0, .string (⟨#[]⟩ : ByteArray)]) (t := 25) ?hr ?_; (case hd => rfl); (case hg => rfl); (case hr => first | (go_simp; done) | (go_simp; rfl)); intro gb294 hg w27 hbox hb; have n0_ := Aside0.mk (Kd.R_below (ra HO291.out) hb); have n1_ := Aside0.mk (below_step bw hb); have n2_ := Aside0.mk (hbox); have n3_ := Aside0.mk ((by rw [hg]; exact (below_size bw) : w.heap.size ≤ gb294)); have n4_ := Aside0.mk ((by rw [hg]; exact (below_size bw) : w.heap.size ≤ gb294)); clear HO291; clear HB; have HO291 := n0_; have HB := n1_; have BK294 := n2_; have GW294 := n3_; have GE294 := n4_; clear n0_ n1_ n2_ n3_ n4_; clear hb hbox hg; obtain ⟨Ao28, co28, eo28⟩ := Kd.R_slice HO291.out; subst eo28; have hcz29_0 : w27.cell? ⟨gb294, 0, none⟩ = some (.slice none 0 0) := (blk_cell BK294.out 0).trans rfl; have hcz29_1 : w27.cell? ⟨gb294, 1, none⟩ = some (.string (⟨#[]⟩ : ByteArray)) := (blk_cell BK294.out 1).trans rfl; have hfz29_0 := blk_frozen BK294.out 0; have hfz29_1 := blk_frozen BK294.out 1) | ((with_reducible refine gate_callee (f := 22) rfl ?_); refine goesL_ (some 12) rfl rfl Tryz.func22 (by kernel_rfl) rfl #[.agg #[.slice Ao28 t289.length co28, .string t292]] rfl am ?_; (with_reducible refine (msg_Message_From.calls (hG := by first | exact hG | exact Glob.below hG (by first | exact HB.out | (repeat (first | (with_reducible first | exact HB.out | apply below_alloc | apply pw_below_drewN | apply below_drew1 | refine below_set ?_ GE294.out | refine below_set ?_ GE299.out) | exact HB.out))) | exact Glob.drawn hG (d0)) k _ _ t289 t292 t295 t296 t297 t298 _ ?side1 ?side2 A2.out).mono ?_); (case side1 => refine (Kd.R_reads' (e := 46) (base := w.heap.size) (ok := fun k_ => True) (n := t289.length) (c := co28) ?_).2.2; exact (by (with_reducible repeat (first | apply Kd.R_alloc | apply Kd.R_drewN | apply Kd.R_drew)); exact (Kd.R_mono (Kd.R_far (p := ⟨gb294, 1, none⟩) (Kd.R_far (p := ⟨gb294, 0, none⟩) (Kd.R_types HO291.out BK294.out (by decide)) (fun _ hk => hk.2) (.slice Ao28 t289.length co28)) (fun _ hk => hk.2) (.string t292)) (fun _ h_ => h_.1)))); (case side2 => exact (Kd.R_reads' HO291.out).2.1); rintro e w30 ⟨rfl, hb⟩; refine ⟨_, rfl, ?_⟩; have n0_ := Aside0.mk (Kd.R_below (by (with_reducible repeat (first | apply Kd.R_alloc | apply Kd.R_drewN | apply Kd.R_drew)); exact (Kd.R_mono (Kd.R_far (p := ⟨gb294, 1, none⟩) (Kd.R_far (p := ⟨gb294, 0, none⟩) (Kd.R_types HO291.out BK294.out (by decide)) (fun _ hk => hk.2) (.slice Ao28 t289.length co28)) (fun _ hk => hk.2) (.string t292)) (fun _ h_ => h_.1))) hb); have n1_ := Aside0.mk (blk_below (g := gb294) (o := .cells #[.slice Ao28 t289.length co28, .string t292] 25 (0, 0)) (by (with_reducible repeat (first | refine blk_drewN ?_ _ | refine blk_drew ?_ | refine blk_alloc ?_ _)); refine blk_put (cs := #[.slice Ao28 t289.length co28, .string (⟨#[]⟩ : ByteArray)]) ?_ 1 _ rfl; (with_reducible repeat (first | refine blk_drewN ?_ _ | refine blk_drew ?_ | refine blk_alloc ?_ _)); exact blk_put (cs := #[.slice none 0 0, .string (⟨#[]⟩ : ByteArray)]) bk 0 _ rfl) hb); have n2_ := Aside0.mk (below_step bwS hb); clear HO291; clear BK294; clear HB; have HO291 := n0_; have BK294 := n1_; have HB := n2_; clear n0_ n1_ n2_; (try clear hb); (try clear hb2); (try clear hk); (try clear hi)) | ((with_reducible refine gate_dst (N := 3) rfl ?_); (try (refine gate_guard (by rfl) ?_; dsimp only)); refine box_event ?hg (N := 3) ?hd (cs := #[.string (⟨#[]⟩ : ByteArray), .string (⟨#[]⟩ : ByteArray), .string (⟨#[]⟩ : ByteArray)]) (t := 53) ?hr ?_; (case hd => rfl); (case hg => rfl); (case hr => first | (go_simp; done) | (go_simp; rfl)); intro gb299 hg w31 hbox hb; have n0_ := Aside0.mk (Kd.R_below (ra HO291.out) hb); have n1_ := Aside0.mk (blk_below (g := gb294) (o := .cells #[.slice Ao28 t289.length co28, .string t292] 25 (0, 0)) bk hb); have n2_ := Aside0.mk (below_step bwS hb); have n3_ := Aside0.mk (hbox); have n4_ := Aside0.mk ((by rw [hg]; exact (below_size bwS) : w.heap.size ≤ gb299)); have n5_ := Aside0.mk ((by rw [hg]; exact (below_size bwS) : w.heap.size ≤ gb299)); have n6_ := Aside0.mk ((by rw [hg]; exact Nat.ne_of_lt (blk_lt (g := gb294) (o := .cells #[.slice Ao28 t289.length co28, .string t292] 25 (0, 0)) bk) : gb294 ≠ gb299)); have n7_ := Aside0.mk ((by rw [hg]; exact Nat.ne_of_gt (blk_lt (g := gb294) (o := .cells #[.slice Ao28 t289.length co28, .string t292] 25 (0, 0)) bk) : gb299 ≠ gb294)); clear HO291; clear BK294; clear HB; have HO291 := n0_; have BK294 := n1_; have HB := n2_; have BK299 := n3_; have GW299 := n4_; have GE299 := n5_; have NB294_299 := n6_; have NB299_294 := n7_; clear n0_ n1_ n2_ n3_ n4_ n5_ n6_ n7_; clear hb hbox hg; have hnb32 := NB299_294.out; have hnc32 := NB294_299.out; have hcz33_0 : w31.cell? ⟨gb299, 0, none⟩ = some (.string (⟨#[]⟩ : ByteArray)) := (blk_cell BK299.out 0).trans rfl; have hcz33_1 : w31.cell? ⟨gb299, 1, none⟩ = some (.string (⟨#[]⟩ : ByteArray)) := (blk_cell BK299.out 1).trans rfl; have hcz33_2 : w31.cell? ⟨gb299, 2, none⟩ = some (.string (⟨#[]⟩ : ByteArray)) := (blk_cell BK299.out 2).trans rfl; have hfz33_0 := blk_frozen BK299.out 0; have hfz33_1 := blk_frozen BK299.out 1; have hfz33_2 := blk_frozen BK299.out 2; have hcz34_0 : w31.cell? ⟨gb294, 0, none⟩ = some (.slice Ao28 t289.length co28) := (blk_cell BK294.out 0).trans rfl; have hcz34_1 : w31.cell? ⟨gb294, 1, none⟩ = some (.string t292) := (blk_cell BK294.out 1).trans rfl; have hfz34_0 := blk_frozen BK294.out 0; have hfz34_1 := blk_frozen BK294.out 1) | ((with_reducible refine gate_callee (f := 16) rfl ?_); refine goesL_ (some 16) rfl rfl Tryz.func16 (by kernel_rfl) rfl #[.agg #[.slice Ao28 t289.length co28, .string t292]] rfl am ?_; (with_reducible refine (msg_Message_Lines.calls (hG := by first | exact hG | exact Glob.below hG (by first | exact HB.out | (repeat (first | (with_reducible first | exact HB.out | apply below_alloc | apply pw_below_drewN | apply below_drew1 | refine below_set ?_ GE294.out | refine below_set ?_ GE299.out) | exact HB.out))) | exact Glob.drawn hG (d0)) k _ _ t289 t292 t300 _ ?side1 ?side2 A3.out).mono ?_); (case side1 => refine (Kd.R_reads' (e := 46) (base := w.heap.size) (ok := fun k_ => True) (n := t289.length) (c := co28) ?_).2.2; exact (by (with_reducible repeat (first | apply Kd.R_alloc | apply Kd.R_drewN | apply Kd.R_drew)); exact (Kd.R_mono (Kd.R_far (p := ⟨gb299, 2, none⟩) (Kd.R_far (p := ⟨gb299, 1, none⟩) (Kd.R_far (p := ⟨gb299, 0, none⟩) (Kd.R_types HO291.out BK299.out (by decide)) (fun _ hk => hk.2) (.string t295)) (fun _ hk => hk.2) (.string t296)) (fun _ hk => hk.2) (.string t297)) (fun _ h_ => h_.1)))); (case side2 => exact (Kd.R_reads' HO291.out).2.1); rintro e w35 ⟨v301, rfl, ho0, hb⟩; refine ⟨_, rfl, ?_⟩; have n0_ := Aside0.mk (Kd.R_below (by (with_reducible repeat (first | apply Kd.R_alloc | apply Kd.R_drewN | apply Kd.R_drew)); exact (Kd.R_mono (Kd.R_far (p := ⟨gb299, 2, none⟩) (Kd.R_far (p := ⟨gb299, 1, none⟩) (Kd.R_far (p := ⟨gb299, 0, none⟩) (Kd.R_types HO291.out BK299.out (by decide)) (fun _ hk => hk.2) (.string t295)) (fun _ hk => hk.2) (.string t296)) (fun _ hk => hk.2) (.string t297)) (fun _ h_ => h_.1))) hb); have n1_ := Aside0.mk (Kd.R_lower ho0 (below_size bwS)); have n2_ := Aside0.mk (blk_below (g := gb294) (o := .cells #[.slice Ao28 t289.length co28, .string t292] 25 (0, 0)) (by (with_reducible repeat (first | refine blk_drewN ?_ _ | refine blk_drew ?_ | refine blk_alloc ?_ _)); refine blk_far ?_ NB294_299.out _; (with_reducible repeat (first | refine blk_drewN ?_ _ | refine blk_drew ?_ | refine blk_alloc ?_ _)); refine blk_far ?_ NB294_299.out _; (with_reducible repeat (first | refine blk_drewN ?_ _ | refine blk_drew ?_ | refine blk_alloc ?_ _)); refine blk_far ?_ NB294_299.out _; (with_reducible repeat (first | refine blk_drewN ?_ _ | refine blk_drew ?_ | refine blk_alloc ?_ _)); exact BK294.out) hb); have n3_ := Aside0.mk (blk_below (g := gb299) (o := .cells #[.string t295, .string t296, .string t297] 53 (0, 0)) (by (with_reducible repeat (first | refine blk_drewN ?_ _ | refine blk_drew ?_ | refine blk_alloc ?_ _)); refine blk_put (cs := #[.string t295, .string t296, .string (⟨#[]⟩ : ByteArray)]) ?_ 2 _ rfl; (with_reducible repeat (first | refine blk_drewN ?_ _ | refine blk_drew ?_ | refine blk_alloc ?_ _)); refine blk_put (cs := #[.string t295, .string (⟨#[]⟩ : ByteArray), .string (⟨#[]⟩ : ByteArray)]) ?_ 1 _ rfl; (with_reducible repeat (first | refine blk_drewN ?_ _ | refine blk_drew ?_ | refine blk_alloc ?_ _)); exact blk_put (cs := #[.string (⟨#[]⟩ : ByteArray), .string (⟨#[]⟩ : ByteArray), .string (⟨#[]⟩ : ByteArray)]) bk 0 _ rfl) hb); have n4_ := Aside0.mk (below_step bwS hb); clear HO291; clear BK294; clear BK299; clear HB; have HO291 := n0_; have HO302 := n1_; have BK294 := n2_; have BK299 := n3_; have HB := n4_; clear n0_ n1_ n2_ n3_ n4_; (try clear hb); (try clear hb2); (try clear hk); (try clear hi); (try clear ho0); have hcz36_0 : w35.cell? ⟨gb299, 0, none⟩ = some (.string t295) := (blk_cell BK299.out 0).trans rfl; have hcz36_1 : w35.cell? ⟨gb299, 1, none⟩ = some (.string t296) := (blk_cell BK299.out 1).trans rfl; have hcz36_2 : w35.cell? ⟨gb299, 2, none⟩ = some (.string t297) := (blk_cell BK299.out 2).trans rfl; have hfz36_0 := blk_frozen BK299.out 0; have hfz36_1 := blk_frozen BK299.out 1; have hfz36_2 := blk_frozen BK299.out 2; obtain ⟨Ao37, co37, eo37⟩ := Kd.R_slice HO302.out; subst eo37; have p303 : 0 ≤ (0 : Int) := (by omega); have q303 : 0 < (t300.length : Int) := od; obtain ⟨ad303, e303, hx303_0⟩ := Kd.at_string (Kd.R_reads' HO302.out).2.2 0 p303 q303; cases e303; have qi303 : (0 < t300.length) = True := eq_true (by omega); (try rw [show ((0 : Int)).toNat = 0 from rfl] at hx303_0); (try rw [Addr.add_zero'] at hx303_0); replace p303 := eq_true p303; replace q303 := eq_true q303))
        go_ret
        exact ⟨ew, bwS⟩
      ·rw [if_neg c9] at H; exact absurd H (by simp)
     ·rw [if_neg c8] at H; have c8b0 : ((t300.length : Int) == 1) = false := beq_eq_false_iff_ne.mpr c8; have c8b1 : ((t300.length : Int) != 1) = true := bne_iff_ne.mpr c8; obtain rfl := Option.some.inj H
      go_enter Tryz.func9, Tryz.ntmps9
      go_wp2_with (first | ((with_reducible refine gate_callee (f := 10) rfl ?_); refine goesL_ (some 7) rfl rfl Tryz.func10 (by kernel_rfl) rfl #[.string (⟨#[70, 114, 111, 109, 58, 32, 65, 110, 110, 32, 60, 97, 64, 98, 62, 13, 10, 13, 10, 104, 105, 13, 10]⟩ : ByteArray)] rfl am ?_; (with_reducible refine (msg_Parse.calls (hG := by first | exact hG | exact Glob.below hG (by first | exact HB.out | (repeat (first | (with_reducible first | exact HB.out | apply below_alloc | apply pw_below_drewN | apply below_drew1 | refine below_set ?_ GE294.out | refine below_set ?_ GE299.out) | exact HB.out))) | exact Glob.drawn hG (d0)) k (⟨#[70, 114, 111, 109, 58, 32, 65, 110, 110, 32, 60, 97, 64, 98, 62, 13, 10, 13, 10, 104, 105, 13, 10]⟩ : ByteArray) t289 t292 t293 _ A1.out).mono ?_); rintro e w38 ⟨v290, rfl, ho0, hb⟩; refine ⟨_, rfl, ?_⟩; have n0_ := Aside0.mk (Kd.R_lower ho0 (below_size bw)); have n1_ := Aside0.mk (below_step bw hb); clear HB; have HO291 := n0_; have HB := n1_; clear n0_ n1_; (try clear hb); (try clear hb2); (try clear hk); (try clear hi); (try clear ho0)) | ((with_reducible refine gate_dst (N := 1) rfl ?_); (try (refine gate_guard (by rfl) ?_; dsimp only)); refine box_event ?hg (N := 1) ?hd (cs := #[.slice none 0 0, .string (⟨#[]⟩ : ByteArray)]) (t := 25) ?hr ?_; (case hd => rfl); (case hg => rfl); (case hr => first | (go_simp; done) | (go_simp; rfl)); intro gb294 hg w39 hbox hb; have n0_ := Aside0.mk (Kd.R_below (ra HO291.out) hb); have n1_ := Aside0.mk (below_step bw hb); have n2_ := Aside0.mk (hbox); have n3_ := Aside0.mk ((by rw [hg]; exact (below_size bw) : w.heap.size ≤ gb294)); have n4_ := Aside0.mk ((by rw [hg]; exact (below_size bw) : w.heap.size ≤ gb294)); clear HO291; clear HB; have HO291 := n0_; have HB := n1_; have BK294 := n2_; have GW294 := n3_; have GE294 := n4_; clear n0_ n1_ n2_ n3_ n4_; clear hb hbox hg; obtain ⟨Ao40, co40, eo40⟩ := Kd.R_slice HO291.out; subst eo40; have hcz41_0 : w39.cell? ⟨gb294, 0, none⟩ = some (.slice none 0 0) := (blk_cell BK294.out 0).trans rfl; have hcz41_1 : w39.cell? ⟨gb294, 1, none⟩ = some (.string (⟨#[]⟩ : ByteArray)) := (blk_cell BK294.out 1).trans rfl; have hfz41_0 := blk_frozen BK294.out 0; have hfz41_1 := blk_frozen BK294.out 1) | ((with_reducible refine gate_callee (f := 22) rfl ?_); refine goesL_ (some 12) rfl rfl Tryz.func22 (by kernel_rfl) rfl #[.agg #[.slice Ao40 t289.length co40, .string t292]] rfl am ?_; (with_reducible refine (msg_Message_From.calls (hG := by first | exact hG | exact Glob.below hG (by first | exact HB.out | (repeat (first | (with_reducible first | exact HB.out | apply below_alloc | apply pw_below_drewN | apply below_drew1 | refine below_set ?_ GE294.out | refine below_set ?_ GE299.out) | exact HB.out))) | exact Glob.drawn hG (d0)) k _ _ t289 t292 t295 t296 t297 t298 _ ?side1 ?side2 A2.out).mono ?_); (case side1 => refine (Kd.R_reads' (e := 46) (base := w.heap.size) (ok := fun k_ => True) (n := t289.length) (c := co40) ?_).2.2; exact (by (with_reducible repeat (first | apply Kd.R_alloc | apply Kd.R_drewN | apply Kd.R_drew)); exact (Kd.R_mono (Kd.R_far (p := ⟨gb294, 1, none⟩) (Kd.R_far (p := ⟨gb294, 0, none⟩) (Kd.R_types HO291.out BK294.out (by decide)) (fun _ hk => hk.2) (.slice Ao40 t289.length co40)) (fun _ hk => hk.2) (.string t292)) (fun _ h_ => h_.1)))); (case side2 => exact (Kd.R_reads' HO291.out).2.1); rintro e w42 ⟨rfl, hb⟩; refine ⟨_, rfl, ?_⟩; have n0_ := Aside0.mk (Kd.R_below (by (with_reducible repeat (first | apply Kd.R_alloc | apply Kd.R_drewN | apply Kd.R_drew)); exact (Kd.R_mono (Kd.R_far (p := ⟨gb294, 1, none⟩) (Kd.R_far (p := ⟨gb294, 0, none⟩) (Kd.R_types HO291.out BK294.out (by decide)) (fun _ hk => hk.2) (.slice Ao40 t289.length co40)) (fun _ hk => hk.2) (.string t292)) (fun _ h_ => h_.1))) hb); have n1_ := Aside0.mk (blk_below (g := gb294) (o := .cells #[.slice Ao40 t289.length co40, .string t292] 25 (0, 0)) (by (with_reducible repeat (first | refine blk_drewN ?_ _ | refine blk_drew ?_ | refine blk_alloc ?_ _)); refine blk_put (cs := #[.slice Ao40 t289.length co40, .string (⟨#[]⟩ : ByteArray)]) ?_ 1 _ rfl; (with_reducible repeat (first | refine blk_drewN ?_ _ | refine blk_drew ?_ | refine blk_alloc ?_ _)); exact blk_put (cs := #[.slice none 0 0, .string (⟨#[]⟩ : ByteArray)]) bk 0 _ rfl) hb); have n2_ := Aside0.mk (below_step bwS hb); clear HO291; clear BK294; clear HB; have HO291 := n0_; have BK294 := n1_; have HB := n2_; clear n0_ n1_ n2_; (try clear hb); (try clear hb2); (try clear hk); (try clear hi)) | ((with_reducible refine gate_dst (N := 3) rfl ?_); (try (refine gate_guard (by rfl) ?_; dsimp only)); refine box_event ?hg (N := 3) ?hd (cs := #[.string (⟨#[]⟩ : ByteArray), .string (⟨#[]⟩ : ByteArray), .string (⟨#[]⟩ : ByteArray)]) (t := 53) ?hr ?_; (case hd => rfl); (case hg => rfl); (case hr => first | (go_simp; done) | (go_simp; rfl)); intro gb299 hg w43 hbox hb; have n0_ := Aside0.mk (Kd.R_below (ra HO291.out) hb); have n1_ := Aside0.mk (blk_below (g := gb294) (o := .cells #[.slice Ao40 t289.length co40, .string t292] 25 (0, 0)) bk hb); have n2_ := Aside0.mk (below_step bwS hb); have n3_ := Aside0.mk (hbox); have n4_ := Aside0.mk ((by rw [hg]; exact (below_size bwS) : w.heap.size ≤ gb299)); have n5_ := Aside0.mk ((by rw [hg]; exact (below_size bwS) : w.heap.size ≤ gb299)); have n6_ := Aside0.mk ((by rw [hg]; exact Nat.ne_of_lt (blk_lt (g := gb294) (o := .cells #[.slice Ao40 t289.length co40, .string t292] 25 (0, 0)) bk) : gb294 ≠ gb299)); have n7_ := Aside0.mk ((by rw [hg]; exact Nat.ne_of_gt (blk_lt (g := gb294) (o := .cells #[.slice Ao40 t289.length co40, .string t292] 25 (0, 0)) bk) : gb299 ≠ gb294)); clear HO291; clear BK294; clear HB; have HO291 := n0_; have BK294 := n1_; have HB := n2_; have BK299 := n3_; have GW299 := n4_; have GE299 := n5_; have NB294_299 := n6_; have NB299_294 := n7_; clear n0_ n1_ n2_ n3_ n4_ n5_ n6_ n7_; clear hb hbox hg; have hnb44 := NB299_294.out; have hnc44 := NB294_299.out; have hcz45_0 : w43.cell? ⟨gb299, 0, none⟩ = some (.string (⟨#[]⟩ : ByteArray)) := (blk_cell BK299.out 0).trans rfl; have hcz45_1 : w43.cell? ⟨gb299, 1, none⟩ = some (.string (⟨#[]⟩ : ByteArray)) := (blk_cell BK299.out 1).trans rfl; have hcz45_2 : w43.cell? ⟨gb299, 2, none⟩ = some (.string (⟨#[]⟩ : ByteArray)) := (blk_cell BK299.out 2).trans rfl; have hfz45_0 := blk_frozen BK299.out 0; have hfz45_1 := blk_frozen BK299.out 1; have hfz45_2 := blk_frozen BK299.out 2; have hcz46_0 : w43.cell? ⟨gb294, 0, none⟩ = some (.slice Ao40 t289.length co40) := (blk_cell BK294.out 0).trans rfl; have hcz46_1 : w43.cell? ⟨gb294, 1, none⟩ = some (.string t292) := (blk_cell BK294.out 1).trans rfl; have hfz46_0 := blk_frozen BK294.out 0; have hfz46_1 := blk_frozen BK294.out 1) | ((with_reducible refine gate_callee (f := 16) rfl ?_); refine goesL_ (some 16) rfl rfl Tryz.func16 (by kernel_rfl) rfl #[.agg #[.slice Ao40 t289.length co40, .string t292]] rfl am ?_; (with_reducible refine (msg_Message_Lines.calls (hG := by first | exact hG | exact Glob.below hG (by first | exact HB.out | (repeat (first | (with_reducible first | exact HB.out | apply below_alloc | apply pw_below_drewN | apply below_drew1 | refine below_set ?_ GE294.out | refine below_set ?_ GE299.out) | exact HB.out))) | exact Glob.drawn hG (d0)) k _ _ t289 t292 t300 _ ?side1 ?side2 A3.out).mono ?_); (case side1 => refine (Kd.R_reads' (e := 46) (base := w.heap.size) (ok := fun k_ => True) (n := t289.length) (c := co40) ?_).2.2; exact (by (with_reducible repeat (first | apply Kd.R_alloc | apply Kd.R_drewN | apply Kd.R_drew)); exact (Kd.R_mono (Kd.R_far (p := ⟨gb299, 2, none⟩) (Kd.R_far (p := ⟨gb299, 1, none⟩) (Kd.R_far (p := ⟨gb299, 0, none⟩) (Kd.R_types HO291.out BK299.out (by decide)) (fun _ hk => hk.2) (.string t295)) (fun _ hk => hk.2) (.string t296)) (fun _ hk => hk.2) (.string t297)) (fun _ h_ => h_.1)))); (case side2 => exact (Kd.R_reads' HO291.out).2.1); rintro e w47 ⟨v301, rfl, ho0, hb⟩; refine ⟨_, rfl, ?_⟩; have n0_ := Aside0.mk (Kd.R_below (by (with_reducible repeat (first | apply Kd.R_alloc | apply Kd.R_drewN | apply Kd.R_drew)); exact (Kd.R_mono (Kd.R_far (p := ⟨gb299, 2, none⟩) (Kd.R_far (p := ⟨gb299, 1, none⟩) (Kd.R_far (p := ⟨gb299, 0, none⟩) (Kd.R_types HO291.out BK299.out (by decide)) (fun _ hk => hk.2) (.string t295)) (fun _ hk => hk.2) (.string t296)) (fun _ hk => hk.2) (.string t297)) (fun _ h_ => h_.1))) hb); have n1_ := Aside0.mk (Kd.R_lower ho0 (below_size bwS)); have n2_ := Aside0.mk (blk_below (g := gb294) (o := .cells #[.slice Ao40 t289.length co40, .string t292] 25 (0, 0)) (by (with_reducible repeat (first | refine blk_drewN ?_ _ | refine blk_drew ?_ | refine blk_alloc ?_ _)); refine blk_far ?_ NB294_299.out _; (with_reducible repeat (first | refine blk_drewN ?_ _ | refine blk_drew ?_ | refine blk_alloc ?_ _)); refine blk_far ?_ NB294_299.out _; (with_reducible repeat (first | refine blk_drewN ?_ _ | refine blk_drew ?_ | refine blk_alloc ?_ _)); refine blk_far ?_ NB294_299.out _; (with_reducible repeat (first | refine blk_drewN ?_ _ | refine blk_drew ?_ | refine blk_alloc ?_ _)); exact BK294.out) hb); have n3_ := Aside0.mk (blk_below (g := gb299) (o := .cells #[.string t295, .string t296, .string t297] 53 (0, 0)) (by (with_reducible repeat (first | refine blk_drewN ?_ _ | refine blk_drew ?_ | refine blk_alloc ?_ _)); refine blk_put (cs := #[.string t295, .string t296, .string (⟨#[]⟩ : ByteArray)]) ?_ 2 _ rfl; (with_reducible repeat (first | refine blk_drewN ?_ _ | refine blk_drew ?_ | refine blk_alloc ?_ _)); refine blk_put (cs := #[.string t295, .string (⟨#[]⟩ : ByteArray), .string (⟨#[]⟩ : ByteArray)]) ?_ 1 _ rfl; (with_reducible repeat (first | refine blk_drewN ?_ _ | refine blk_drew ?_ | refine blk_alloc ?_ _)); exact blk_put (cs := #[.string (⟨#[]⟩ : ByteArray), .string (⟨#[]⟩ : ByteArray), .string (⟨#[]⟩ : ByteArray)]) bk 0 _ rfl) hb); have n4_ := Aside0.mk (below_step bwS hb); clear HO291; clear BK294; clear BK299; clear HB; have HO291 := n0_; have HO302 := n1_; have BK294 := n2_; have BK299 := n3_; have HB := n4_; clear n0_ n1_ n2_ n3_ n4_; (try clear hb); (try clear hb2); (try clear hk); (try clear hi); (try clear ho0); have hcz48_0 : w47.cell? ⟨gb299, 0, none⟩ = some (.string t295) := (blk_cell BK299.out 0).trans rfl; have hcz48_1 : w47.cell? ⟨gb299, 1, none⟩ = some (.string t296) := (blk_cell BK299.out 1).trans rfl; have hcz48_2 : w47.cell? ⟨gb299, 2, none⟩ = some (.string t297) := (blk_cell BK299.out 2).trans rfl; have hfz48_0 := blk_frozen BK299.out 0; have hfz48_1 := blk_frozen BK299.out 1; have hfz48_2 := blk_frozen BK299.out 2; obtain ⟨Ao49, co49, eo49⟩ := Kd.R_slice HO302.out; subst eo49))
      go_ret
      exact ⟨ew, bwS⟩
    ·rw [if_neg c7] at H; have c7b0 : (t296.toList == ([97] : List UInt8)) = false := beq_eq_false_iff_ne.mpr c7; have c7b1 : (t296.toList != ([97] : List UInt8)) = true := bne_iff_ne.mpr c7; obtain rfl := Option.some.inj H
     go_enter Tryz.func9, Tryz.ntmps9
     go_wp2_with (first | ((with_reducible refine gate_callee (f := 10) rfl ?_); refine goesL_ (some 7) rfl rfl Tryz.func10 (by kernel_rfl) rfl #[.string (⟨#[70, 114, 111, 109, 58, 32, 65, 110, 110, 32, 60, 97, 64, 98, 62, 13, 10, 13, 10, 104, 105, 13, 10]⟩ : ByteArray)] rfl am ?_; (with_reducible refine (msg_Parse.calls (hG := by first | exact hG | exact Glob.below hG (by first | exact HB.out | (repeat (first | (with_reducible first | exact HB.out | apply below_alloc | apply pw_below_drewN | apply below_drew1 | refine below_set ?_ GE294.out | refine below_set ?_ GE299.out) | exact HB.out))) | exact Glob.drawn hG (d0)) k (⟨#[70, 114, 111, 109, 58, 32, 65, 110, 110, 32, 60, 97, 64, 98, 62, 13, 10, 13, 10, 104, 105, 13, 10]⟩ : ByteArray) t289 t292 t293 _ A1.out).mono ?_); rintro e w50 ⟨v290, rfl, ho0, hb⟩; refine ⟨_, rfl, ?_⟩; have n0_ := Aside0.mk (Kd.R_lower ho0 (below_size bw)); have n1_ := Aside0.mk (below_step bw hb); clear HB; have HO291 := n0_; have HB := n1_; clear n0_ n1_; (try clear hb); (try clear hb2); (try clear hk); (try clear hi); (try clear ho0)) | ((with_reducible refine gate_dst (N := 1) rfl ?_); (try (refine gate_guard (by rfl) ?_; dsimp only)); refine box_event ?hg (N := 1) ?hd (cs := #[.slice none 0 0, .string (⟨#[]⟩ : ByteArray)]) (t := 25) ?hr ?_; (case hd => rfl); (case hg => rfl); (case hr => first | (go_simp; done) | (go_simp; rfl)); intro gb294 hg w51 hbox hb; have n0_ := Aside0.mk (Kd.R_below (ra HO291.out) hb); have n1_ := Aside0.mk (below_step bw hb); have n2_ := Aside0.mk (hbox); have n3_ := Aside0.mk ((by rw [hg]; exact (below_size bw) : w.heap.size ≤ gb294)); have n4_ := Aside0.mk ((by rw [hg]; exact (below_size bw) : w.heap.size ≤ gb294)); clear HO291; clear HB; have HO291 := n0_; have HB := n1_; have BK294 := n2_; have GW294 := n3_; have GE294 := n4_; clear n0_ n1_ n2_ n3_ n4_; clear hb hbox hg; obtain ⟨Ao52, co52, eo52⟩ := Kd.R_slice HO291.out; subst eo52; have hcz53_0 : w51.cell? ⟨gb294, 0, none⟩ = some (.slice none 0 0) := (blk_cell BK294.out 0).trans rfl; have hcz53_1 : w51.cell? ⟨gb294, 1, none⟩ = some (.string (⟨#[]⟩ : ByteArray)) := (blk_cell BK294.out 1).trans rfl; have hfz53_0 := blk_frozen BK294.out 0; have hfz53_1 := blk_frozen BK294.out 1) | ((with_reducible refine gate_callee (f := 22) rfl ?_); refine goesL_ (some 12) rfl rfl Tryz.func22 (by kernel_rfl) rfl #[.agg #[.slice Ao52 t289.length co52, .string t292]] rfl am ?_; (with_reducible refine (msg_Message_From.calls (hG := by first | exact hG | exact Glob.below hG (by first | exact HB.out | (repeat (first | (with_reducible first | exact HB.out | apply below_alloc | apply pw_below_drewN | apply below_drew1 | refine below_set ?_ GE294.out | refine below_set ?_ GE299.out) | exact HB.out))) | exact Glob.drawn hG (d0)) k _ _ t289 t292 t295 t296 t297 t298 _ ?side1 ?side2 A2.out).mono ?_); (case side1 => refine (Kd.R_reads' (e := 46) (base := w.heap.size) (ok := fun k_ => True) (n := t289.length) (c := co52) ?_).2.2; exact (by (with_reducible repeat (first | apply Kd.R_alloc | apply Kd.R_drewN | apply Kd.R_drew)); exact (Kd.R_mono (Kd.R_far (p := ⟨gb294, 1, none⟩) (Kd.R_far (p := ⟨gb294, 0, none⟩) (Kd.R_types HO291.out BK294.out (by decide)) (fun _ hk => hk.2) (.slice Ao52 t289.length co52)) (fun _ hk => hk.2) (.string t292)) (fun _ h_ => h_.1)))); (case side2 => exact (Kd.R_reads' HO291.out).2.1); rintro e w54 ⟨rfl, hb⟩; refine ⟨_, rfl, ?_⟩; have n0_ := Aside0.mk (Kd.R_below (by (with_reducible repeat (first | apply Kd.R_alloc | apply Kd.R_drewN | apply Kd.R_drew)); exact (Kd.R_mono (Kd.R_far (p := ⟨gb294, 1, none⟩) (Kd.R_far (p := ⟨gb294, 0, none⟩) (Kd.R_types HO291.out BK294.out (by decide)) (fun _ hk => hk.2) (.slice Ao52 t289.length co52)) (fun _ hk => hk.2) (.string t292)) (fun _ h_ => h_.1))) hb); have n1_ := Aside0.mk (blk_below (g := gb294) (o := .cells #[.slice Ao52 t289.length co52, .string t292] 25 (0, 0)) (by (with_reducible repeat (first | refine blk_drewN ?_ _ | refine blk_drew ?_ | refine blk_alloc ?_ _)); refine blk_put (cs := #[.slice Ao52 t289.length co52, .string (⟨#[]⟩ : ByteArray)]) ?_ 1 _ rfl; (with_reducible repeat (first | refine blk_drewN ?_ _ | refine blk_drew ?_ | refine blk_alloc ?_ _)); exact blk_put (cs := #[.slice none 0 0, .string (⟨#[]⟩ : ByteArray)]) bk 0 _ rfl) hb); have n2_ := Aside0.mk (below_step bwS hb); clear HO291; clear BK294; clear HB; have HO291 := n0_; have BK294 := n1_; have HB := n2_; clear n0_ n1_ n2_; (try clear hb); (try clear hb2); (try clear hk); (try clear hi)) | ((with_reducible refine gate_dst (N := 3) rfl ?_); (try (refine gate_guard (by rfl) ?_; dsimp only)); refine box_event ?hg (N := 3) ?hd (cs := #[.string (⟨#[]⟩ : ByteArray), .string (⟨#[]⟩ : ByteArray), .string (⟨#[]⟩ : ByteArray)]) (t := 53) ?hr ?_; (case hd => rfl); (case hg => rfl); (case hr => first | (go_simp; done) | (go_simp; rfl)); intro gb299 hg w55 hbox hb; have n0_ := Aside0.mk (Kd.R_below (ra HO291.out) hb); have n1_ := Aside0.mk (blk_below (g := gb294) (o := .cells #[.slice Ao52 t289.length co52, .string t292] 25 (0, 0)) bk hb); have n2_ := Aside0.mk (below_step bwS hb); have n3_ := Aside0.mk (hbox); have n4_ := Aside0.mk ((by rw [hg]; exact (below_size bwS) : w.heap.size ≤ gb299)); have n5_ := Aside0.mk ((by rw [hg]; exact (below_size bwS) : w.heap.size ≤ gb299)); have n6_ := Aside0.mk ((by rw [hg]; exact Nat.ne_of_lt (blk_lt (g := gb294) (o := .cells #[.slice Ao52 t289.length co52, .string t292] 25 (0, 0)) bk) : gb294 ≠ gb299)); have n7_ := Aside0.mk ((by rw [hg]; exact Nat.ne_of_gt (blk_lt (g := gb294) (o := .cells #[.slice Ao52 t289.length co52, .string t292] 25 (0, 0)) bk) : gb299 ≠ gb294)); clear HO291; clear BK294; clear HB; have HO291 := n0_; have BK294 := n1_; have HB := n2_; have BK299 := n3_; have GW299 := n4_; have GE299 := n5_; have NB294_299 := n6_; have NB299_294 := n7_; clear n0_ n1_ n2_ n3_ n4_ n5_ n6_ n7_; clear hb hbox hg; have hnb56 := NB299_294.out; have hnc56 := NB294_299.out; have hcz57_0 : w55.cell? ⟨gb299, 0, none⟩ = some (.string (⟨#[]⟩ : ByteArray)) := (blk_cell BK299.out 0).trans rfl; have hcz57_1 : w55.cell? ⟨gb299, 1, none⟩ = some (.string (⟨#[]⟩ : ByteArray)) := (blk_cell BK299.out 1).trans rfl; have hcz57_2 : w55.cell? ⟨gb299, 2, none⟩ = some (.string (⟨#[]⟩ : ByteArray)) := (blk_cell BK299.out 2).trans rfl; have hfz57_0 := blk_frozen BK299.out 0; have hfz57_1 := blk_frozen BK299.out 1; have hfz57_2 := blk_frozen BK299.out 2; have hcz58_0 : w55.cell? ⟨gb294, 0, none⟩ = some (.slice Ao52 t289.length co52) := (blk_cell BK294.out 0).trans rfl; have hcz58_1 : w55.cell? ⟨gb294, 1, none⟩ = some (.string t292) := (blk_cell BK294.out 1).trans rfl; have hfz58_0 := blk_frozen BK294.out 0; have hfz58_1 := blk_frozen BK294.out 1) | ((with_reducible refine gate_callee (f := 16) rfl ?_); refine goesL_ (some 16) rfl rfl Tryz.func16 (by kernel_rfl) rfl #[.agg #[.slice Ao52 t289.length co52, .string t292]] rfl am ?_; (with_reducible refine (msg_Message_Lines.calls (hG := by first | exact hG | exact Glob.below hG (by first | exact HB.out | (repeat (first | (with_reducible first | exact HB.out | apply below_alloc | apply pw_below_drewN | apply below_drew1 | refine below_set ?_ GE294.out | refine below_set ?_ GE299.out) | exact HB.out))) | exact Glob.drawn hG (d0)) k _ _ t289 t292 t300 _ ?side1 ?side2 A3.out).mono ?_); (case side1 => refine (Kd.R_reads' (e := 46) (base := w.heap.size) (ok := fun k_ => True) (n := t289.length) (c := co52) ?_).2.2; exact (by (with_reducible repeat (first | apply Kd.R_alloc | apply Kd.R_drewN | apply Kd.R_drew)); exact (Kd.R_mono (Kd.R_far (p := ⟨gb299, 2, none⟩) (Kd.R_far (p := ⟨gb299, 1, none⟩) (Kd.R_far (p := ⟨gb299, 0, none⟩) (Kd.R_types HO291.out BK299.out (by decide)) (fun _ hk => hk.2) (.string t295)) (fun _ hk => hk.2) (.string t296)) (fun _ hk => hk.2) (.string t297)) (fun _ h_ => h_.1)))); (case side2 => exact (Kd.R_reads' HO291.out).2.1); rintro e w59 ⟨v301, rfl, ho0, hb⟩; refine ⟨_, rfl, ?_⟩; have n0_ := Aside0.mk (Kd.R_below (by (with_reducible repeat (first | apply Kd.R_alloc | apply Kd.R_drewN | apply Kd.R_drew)); exact (Kd.R_mono (Kd.R_far (p := ⟨gb299, 2, none⟩) (Kd.R_far (p := ⟨gb299, 1, none⟩) (Kd.R_far (p := ⟨gb299, 0, none⟩) (Kd.R_types HO291.out BK299.out (by decide)) (fun _ hk => hk.2) (.string t295)) (fun _ hk => hk.2) (.string t296)) (fun _ hk => hk.2) (.string t297)) (fun _ h_ => h_.1))) hb); have n1_ := Aside0.mk (Kd.R_lower ho0 (below_size bwS)); have n2_ := Aside0.mk (blk_below (g := gb294) (o := .cells #[.slice Ao52 t289.length co52, .string t292] 25 (0, 0)) (by (with_reducible repeat (first | refine blk_drewN ?_ _ | refine blk_drew ?_ | refine blk_alloc ?_ _)); refine blk_far ?_ NB294_299.out _; (with_reducible repeat (first | refine blk_drewN ?_ _ | refine blk_drew ?_ | refine blk_alloc ?_ _)); refine blk_far ?_ NB294_299.out _; (with_reducible repeat (first | refine blk_drewN ?_ _ | refine blk_drew ?_ | refine blk_alloc ?_ _)); refine blk_far ?_ NB294_299.out _; (with_reducible repeat (first | refine blk_drewN ?_ _ | refine blk_drew ?_ | refine blk_alloc ?_ _)); exact BK294.out) hb); have n3_ := Aside0.mk (blk_below (g := gb299) (o := .cells #[.string t295, .string t296, .string t297] 53 (0, 0)) (by (with_reducible repeat (first | refine blk_drewN ?_ _ | refine blk_drew ?_ | refine blk_alloc ?_ _)); refine blk_put (cs := #[.string t295, .string t296, .string (⟨#[]⟩ : ByteArray)]) ?_ 2 _ rfl; (with_reducible repeat (first | refine blk_drewN ?_ _ | refine blk_drew ?_ | refine blk_alloc ?_ _)); refine blk_put (cs := #[.string t295, .string (⟨#[]⟩ : ByteArray), .string (⟨#[]⟩ : ByteArray)]) ?_ 1 _ rfl; (with_reducible repeat (first | refine blk_drewN ?_ _ | refine blk_drew ?_ | refine blk_alloc ?_ _)); exact blk_put (cs := #[.string (⟨#[]⟩ : ByteArray), .string (⟨#[]⟩ : ByteArray), .string (⟨#[]⟩ : ByteArray)]) bk 0 _ rfl) hb); have n4_ := Aside0.mk (below_step bwS hb); clear HO291; clear BK294; clear BK299; clear HB; have HO291 := n0_; have HO302 := n1_; have BK294 := n2_; have BK299 := n3_; have HB := n4_; clear n0_ n1_ n2_ n3_ n4_; (try clear hb); (try clear hb2); (try clear hk); (try clear hi); (try clear ho0); have hcz60_0 : w59.cell? ⟨gb299, 0, none⟩ = some (.string t295) := (blk_cell BK299.out 0).trans rfl; have hcz60_1 : w59.cell? ⟨gb299, 1, none⟩ = some (.string t296) := (blk_cell BK299.out 1).trans rfl; have hcz60_2 : w59.cell? ⟨gb299, 2, none⟩ = some (.string t297) := (blk_cell BK299.out 2).trans rfl; have hfz60_0 := blk_frozen BK299.out 0; have hfz60_1 := blk_frozen BK299.out 1; have hfz60_2 := blk_frozen BK299.out 2))
     go_ret
     exact ⟨ew, bwS⟩
   ·rw [if_neg c6] at H; have c6b0 : (t295.toList == ([65, 110, 110] : List UInt8)) = false := beq_eq_false_iff_ne.mpr c6; have c6b1 : (t295.toList != ([65, 110, 110] : List UInt8)) = true := bne_iff_ne.mpr c6; obtain rfl := Option.some.inj H
    go_enter Tryz.func9, Tryz.ntmps9
    go_wp2_with (first | ((with_reducible refine gate_callee (f := 10) rfl ?_); refine goesL_ (some 7) rfl rfl Tryz.func10 (by kernel_rfl) rfl #[.string (⟨#[70, 114, 111, 109, 58, 32, 65, 110, 110, 32, 60, 97, 64, 98, 62, 13, 10, 13, 10, 104, 105, 13, 10]⟩ : ByteArray)] rfl am ?_; (with_reducible refine (msg_Parse.calls (hG := by first | exact hG | exact Glob.below hG (by first | exact HB.out | (repeat (first | (with_reducible first | exact HB.out | apply below_alloc | apply pw_below_drewN | apply below_drew1 | refine below_set ?_ GE294.out | refine below_set ?_ GE299.out) | exact HB.out))) | exact Glob.drawn hG (d0)) k (⟨#[70, 114, 111, 109, 58, 32, 65, 110, 110, 32, 60, 97, 64, 98, 62, 13, 10, 13, 10, 104, 105, 13, 10]⟩ : ByteArray) t289 t292 t293 _ A1.out).mono ?_); rintro e w61 ⟨v290, rfl, ho0, hb⟩; refine ⟨_, rfl, ?_⟩; have n0_ := Aside0.mk (Kd.R_lower ho0 (below_size bw)); have n1_ := Aside0.mk (below_step bw hb); clear HB; have HO291 := n0_; have HB := n1_; clear n0_ n1_; (try clear hb); (try clear hb2); (try clear hk); (try clear hi); (try clear ho0)) | ((with_reducible refine gate_dst (N := 1) rfl ?_); (try (refine gate_guard (by rfl) ?_; dsimp only)); refine box_event ?hg (N := 1) ?hd (cs := #[.slice none 0 0, .string (⟨#[]⟩ : ByteArray)]) (t := 25) ?hr ?_; (case hd => rfl); (case hg => rfl); (case hr => first | (go_simp; done) | (go_simp; rfl)); intro gb294 hg w62 hbox hb; have n0_ := Aside0.mk (Kd.R_below (ra HO291.out) hb); have n1_ := Aside0.mk (below_step bw hb); have n2_ := Aside0.mk (hbox); have n3_ := Aside0.mk ((by rw [hg]; exact (below_size bw) : w.heap.size ≤ gb294)); have n4_ := Aside0.mk ((by rw [hg]; exact (below_size bw) : w.heap.size ≤ gb294)); clear HO291; clear HB; have HO291 := n0_; have HB := n1_; have BK294 := n2_; have GW294 := n3_; have GE294 := n4_; clear n0_ n1_ n2_ n3_ n4_; clear hb hbox hg; obtain ⟨Ao63, co63, eo63⟩ := Kd.R_slice HO291.out; subst eo63; have hcz64_0 : w62.cell? ⟨gb294, 0, none⟩ = some (.slice none 0 0) := (blk_cell BK294.out 0).trans rfl; have hcz64_1 : w62.cell? ⟨gb294, 1, none⟩ = some (.string (⟨#[]⟩ : ByteArray)) := (blk_cell BK294.out 1).trans rfl; have hfz64_0 := blk_frozen BK294.out 0; have hfz64_1 := blk_frozen BK294.out 1) | ((with_reducible refine gate_callee (f := 22) rfl ?_); refine goesL_ (some 12) rfl rfl Tryz.func22 (by kernel_rfl) rfl #[.agg #[.slice Ao63 t289.length co63, .string t292]] rfl am ?_; (with_reducible refine (msg_Message_From.calls (hG := by first | exact hG | exact Glob.below hG (by first | exact HB.out | (repeat (first | (with_reducible first | exact HB.out | apply below_alloc | apply pw_below_drewN | apply below_drew1 | refine below_set ?_ GE294.out | refine below_set ?_ GE299.out) | exact HB.out))) | exact Glob.drawn hG (d0)) k _ _ t289 t292 t295 t296 t297 t298 _ ?side1 ?side2 A2.out).mono ?_); (case side1 => refine (Kd.R_reads' (e := 46) (base := w.heap.size) (ok := fun k_ => True) (n := t289.length) (c := co63) ?_).2.2; exact (by (with_reducible repeat (first | apply Kd.R_alloc | apply Kd.R_drewN | apply Kd.R_drew)); exact (Kd.R_mono (Kd.R_far (p := ⟨gb294, 1, none⟩) (Kd.R_far (p := ⟨gb294, 0, none⟩) (Kd.R_types HO291.out BK294.out (by decide)) (fun _ hk => hk.2) (.slice Ao63 t289.length co63)) (fun _ hk => hk.2) (.string t292)) (fun _ h_ => h_.1)))); (case side2 => exact (Kd.R_reads' HO291.out).2.1); rintro e w65 ⟨rfl, hb⟩; refine ⟨_, rfl, ?_⟩; have n0_ := Aside0.mk (Kd.R_below (by (with_reducible repeat (first | apply Kd.R_alloc | apply Kd.R_drewN | apply Kd.R_drew)); exact (Kd.R_mono (Kd.R_far (p := ⟨gb294, 1, none⟩) (Kd.R_far (p := ⟨gb294, 0, none⟩) (Kd.R_types HO291.out BK294.out (by decide)) (fun _ hk => hk.2) (.slice Ao63 t289.length co63)) (fun _ hk => hk.2) (.string t292)) (fun _ h_ => h_.1))) hb); have n1_ := Aside0.mk (blk_below (g := gb294) (o := .cells #[.slice Ao63 t289.length co63, .string t292] 25 (0, 0)) (by (with_reducible repeat (first | refine blk_drewN ?_ _ | refine blk_drew ?_ | refine blk_alloc ?_ _)); refine blk_put (cs := #[.slice Ao63 t289.length co63, .string (⟨#[]⟩ : ByteArray)]) ?_ 1 _ rfl; (with_reducible repeat (first | refine blk_drewN ?_ _ | refine blk_drew ?_ | refine blk_alloc ?_ _)); exact blk_put (cs := #[.slice none 0 0, .string (⟨#[]⟩ : ByteArray)]) bk 0 _ rfl) hb); have n2_ := Aside0.mk (below_step bwS hb); clear HO291; clear BK294; clear HB; have HO291 := n0_; have BK294 := n1_; have HB := n2_; clear n0_ n1_ n2_; (try clear hb); (try clear hb2); (try clear hk); (try clear hi)) | ((with_reducible refine gate_dst (N := 3) rfl ?_); (try (refine gate_guard (by rfl) ?_; dsimp only)); refine box_event ?hg (N := 3) ?hd (cs := #[.string (⟨#[]⟩ : ByteArray), .string (⟨#[]⟩ : ByteArray), .string (⟨#[]⟩ : ByteArray)]) (t := 53) ?hr ?_; (case hd => rfl); (case hg => rfl); (case hr => first | (go_simp; done) | (go_simp; rfl)); intro gb299 hg w66 hbox hb; have n0_ := Aside0.mk (Kd.R_below (ra HO291.out) hb); have n1_ := Aside0.mk (blk_below (g := gb294) (o := .cells #[.slice Ao63 t289.length co63, .string t292] 25 (0, 0)) bk hb); have n2_ := Aside0.mk (below_step bwS hb); have n3_ := Aside0.mk (hbox); have n4_ := Aside0.mk ((by rw [hg]; exact (below_size bwS) : w.heap.size ≤ gb299)); have n5_ := Aside0.mk ((by rw [hg]; exact (below_size bwS) : w.heap.size ≤ gb299)); have n6_ := Aside0.mk ((by rw [hg]; exact Nat.ne_of_lt (blk_lt (g := gb294) (o := .cells #[.slice Ao63 t289.length co63, .string t292] 25 (0, 0)) bk) : gb294 ≠ gb299)); have n7_ := Aside0.mk ((by rw [hg]; exact Nat.ne_of_gt (blk_lt (g := gb294) (o := .cells #[.slice Ao63 t289.length co63, .string t292] 25 (0, 0)) bk) : gb299 ≠ gb294)); clear HO291; clear BK294; clear HB; have HO291 := n0_; have BK294 := n1_; have HB := n2_; have BK299 := n3_; have GW299 := n4_; have GE299 := n5_; have NB294_299 := n6_; have NB299_294 := n7_; clear n0_ n1_ n2_ n3_ n4_ n5_ n6_ n7_; clear hb hbox hg; have hnb67 := NB299_294.out; have hnc67 := NB294_299.out; have hcz68_0 : w66.cell? ⟨gb299, 0, none⟩ = some (.string (⟨#[]⟩ : ByteArray)) := (blk_cell BK299.out 0).trans rfl; have hcz68_1 : w66.cell? ⟨gb299, 1, none⟩ = some (.string (⟨#[]⟩ : ByteArray)) := (blk_cell BK299.out 1).trans rfl; have hcz68_2 : w66.cell? ⟨gb299, 2, none⟩ = some (.string (⟨#[]⟩ : ByteArray)) := (blk_cell BK299.out 2).trans rfl; have hfz68_0 := blk_frozen BK299.out 0; have hfz68_1 := blk_frozen BK299.out 1; have hfz68_2 := blk_frozen BK299.out 2; have hcz69_0 : w66.cell? ⟨gb294, 0, none⟩ = some (.slice Ao63 t289.length co63) := (blk_cell BK294.out 0).trans rfl; have hcz69_1 : w66.cell? ⟨gb294, 1, none⟩ = some (.string t292) := (blk_cell BK294.out 1).trans rfl; have hfz69_0 := blk_frozen BK294.out 0; have hfz69_1 := blk_frozen BK294.out 1) | ((with_reducible refine gate_callee (f := 16) rfl ?_); refine goesL_ (some 16) rfl rfl Tryz.func16 (by kernel_rfl) rfl #[.agg #[.slice Ao63 t289.length co63, .string t292]] rfl am ?_; (with_reducible refine (msg_Message_Lines.calls (hG := by first | exact hG | exact Glob.below hG (by first | exact HB.out | (repeat (first | (with_reducible first | exact HB.out | apply below_alloc | apply pw_below_drewN | apply below_drew1 | refine below_set ?_ GE294.out | refine below_set ?_ GE299.out) | exact HB.out))) | exact Glob.drawn hG (d0)) k _ _ t289 t292 t300 _ ?side1 ?side2 A3.out).mono ?_); (case side1 => refine (Kd.R_reads' (e := 46) (base := w.heap.size) (ok := fun k_ => True) (n := t289.length) (c := co63) ?_).2.2; exact (by (with_reducible repeat (first | apply Kd.R_alloc | apply Kd.R_drewN | apply Kd.R_drew)); exact (Kd.R_mono (Kd.R_far (p := ⟨gb299, 2, none⟩) (Kd.R_far (p := ⟨gb299, 1, none⟩) (Kd.R_far (p := ⟨gb299, 0, none⟩) (Kd.R_types HO291.out BK299.out (by decide)) (fun _ hk => hk.2) (.string t295)) (fun _ hk => hk.2) (.string t296)) (fun _ hk => hk.2) (.string t297)) (fun _ h_ => h_.1)))); (case side2 => exact (Kd.R_reads' HO291.out).2.1); rintro e w70 ⟨v301, rfl, ho0, hb⟩; refine ⟨_, rfl, ?_⟩; have n0_ := Aside0.mk (Kd.R_below (by (with_reducible repeat (first | apply Kd.R_alloc | apply Kd.R_drewN | apply Kd.R_drew)); exact (Kd.R_mono (Kd.R_far (p := ⟨gb299, 2, none⟩) (Kd.R_far (p := ⟨gb299, 1, none⟩) (Kd.R_far (p := ⟨gb299, 0, none⟩) (Kd.R_types HO291.out BK299.out (by decide)) (fun _ hk => hk.2) (.string t295)) (fun _ hk => hk.2) (.string t296)) (fun _ hk => hk.2) (.string t297)) (fun _ h_ => h_.1))) hb); have n1_ := Aside0.mk (Kd.R_lower ho0 (below_size bwS)); have n2_ := Aside0.mk (blk_below (g := gb294) (o := .cells #[.slice Ao63 t289.length co63, .string t292] 25 (0, 0)) (by (with_reducible repeat (first | refine blk_drewN ?_ _ | refine blk_drew ?_ | refine blk_alloc ?_ _)); refine blk_far ?_ NB294_299.out _; (with_reducible repeat (first | refine blk_drewN ?_ _ | refine blk_drew ?_ | refine blk_alloc ?_ _)); refine blk_far ?_ NB294_299.out _; (with_reducible repeat (first | refine blk_drewN ?_ _ | refine blk_drew ?_ | refine blk_alloc ?_ _)); refine blk_far ?_ NB294_299.out _; (with_reducible repeat (first | refine blk_drewN ?_ _ | refine blk_drew ?_ | refine blk_alloc ?_ _)); exact BK294.out) hb); have n3_ := Aside0.mk (blk_below (g := gb299) (o := .cells #[.string t295, .string t296, .string t297] 53 (0, 0)) (by (with_reducible repeat (first | refine blk_drewN ?_ _ | refine blk_drew ?_ | refine blk_alloc ?_ _)); refine blk_put (cs := #[.string t295, .string t296, .string (⟨#[]⟩ : ByteArray)]) ?_ 2 _ rfl; (with_reducible repeat (first | refine blk_drewN ?_ _ | refine blk_drew ?_ | refine blk_alloc ?_ _)); refine blk_put (cs := #[.string t295, .string (⟨#[]⟩ : ByteArray), .string (⟨#[]⟩ : ByteArray)]) ?_ 1 _ rfl; (with_reducible repeat (first | refine blk_drewN ?_ _ | refine blk_drew ?_ | refine blk_alloc ?_ _)); exact blk_put (cs := #[.string (⟨#[]⟩ : ByteArray), .string (⟨#[]⟩ : ByteArray), .string (⟨#[]⟩ : ByteArray)]) bk 0 _ rfl) hb); have n4_ := Aside0.mk (below_step bwS hb); clear HO291; clear BK294; clear BK299; clear HB; have HO291 := n0_; have HO302 := n1_; have BK294 := n2_; have BK299 := n3_; have HB := n4_; clear n0_ n1_ n2_ n3_ n4_; (try clear hb); (try clear hb2); (try clear hk); (try clear hi); (try clear ho0); have hcz71_0 : w70.cell? ⟨gb299, 0, none⟩ = some (.string t295) := (blk_cell BK299.out 0).trans rfl; have hcz71_1 : w70.cell? ⟨gb299, 1, none⟩ = some (.string t296) := (blk_cell BK299.out 1).trans rfl; have hcz71_2 : w70.cell? ⟨gb299, 2, none⟩ = some (.string t297) := (blk_cell BK299.out 2).trans rfl; have hfz71_0 := blk_frozen BK299.out 0; have hfz71_1 := blk_frozen BK299.out 1; have hfz71_2 := blk_frozen BK299.out 2))
    go_ret
    exact ⟨ew, bwS⟩
  ·rw [if_neg c5] at H; have c5b0 : (t298 == 0) = false := beq_eq_false_iff_ne.mpr c5; have c5b1 : (t298 != 0) = true := bne_iff_ne.mpr c5; obtain rfl := Option.some.inj H
   go_enter Tryz.func9, Tryz.ntmps9
   go_wp2_with (first | ((with_reducible refine gate_callee (f := 10) rfl ?_); refine goesL_ (some 7) rfl rfl Tryz.func10 (by kernel_rfl) rfl #[.string (⟨#[70, 114, 111, 109, 58, 32, 65, 110, 110, 32, 60, 97, 64, 98, 62, 13, 10, 13, 10, 104, 105, 13, 10]⟩ : ByteArray)] rfl am ?_; (with_reducible refine (msg_Parse.calls (hG := by first | exact hG | exact Glob.below hG (by first | exact HB.out | (repeat (first | (with_reducible first | exact HB.out | apply below_alloc | apply pw_below_drewN | apply below_drew1 | refine below_set ?_ GE294.out | refine below_set ?_ GE299.out) | exact HB.out))) | exact Glob.drawn hG (d0)) k (⟨#[70, 114, 111, 109, 58, 32, 65, 110, 110, 32, 60, 97, 64, 98, 62, 13, 10, 13, 10, 104, 105, 13, 10]⟩ : ByteArray) t289 t292 t293 _ A1.out).mono ?_); rintro e w72 ⟨v290, rfl, ho0, hb⟩; refine ⟨_, rfl, ?_⟩; have n0_ := Aside0.mk (Kd.R_lower ho0 (below_size bw)); have n1_ := Aside0.mk (below_step bw hb); clear HB; have HO291 := n0_; have HB := n1_; clear n0_ n1_; (try clear hb); (try clear hb2); (try clear hk); (try clear hi); (try clear ho0)) | ((with_reducible refine gate_dst (N := 1) rfl ?_); (try (refine gate_guard (by rfl) ?_; dsimp only)); refine box_event ?hg (N := 1) ?hd (cs := #[.slice none 0 0, .string (⟨#[]⟩ : ByteArray)]) (t := 25) ?hr ?_; (case hd => rfl); (case hg => rfl); (case hr => first | (go_simp; done) | (go_simp; rfl)); intro gb294 hg w73 hbox hb; have n0_ := Aside0.mk (Kd.R_below (ra HO291.out) hb); have n1_ := Aside0.mk (below_step bw hb); have n2_ := Aside0.mk (hbox); have n3_ := Aside0.mk ((by rw [hg]; exact (below_size bw) : w.heap.size ≤ gb294)); have n4_ := Aside0.mk ((by rw [hg]; exact (below_size bw) : w.heap.size ≤ gb294)); clear HO291; clear HB; have HO291 := n0_; have HB := n1_; have BK294 := n2_; have GW294 := n3_; have GE294 := n4_; clear n0_ n1_ n2_ n3_ n4_; clear hb hbox hg; obtain ⟨Ao74, co74, eo74⟩ := Kd.R_slice HO291.out; subst eo74; have hcz75_0 : w73.cell? ⟨gb294, 0, none⟩ = some (.slice none 0 0) := (blk_cell BK294.out 0).trans rfl; have hcz75_1 : w73.cell? ⟨gb294, 1, none⟩ = some (.string (⟨#[]⟩ : ByteArray)) := (blk_cell BK294.out 1).trans rfl; have hfz75_0 := blk_frozen BK294.out 0; have hfz75_1 := blk_frozen BK294.out 1) | ((with_reducible refine gate_callee (f := 22) rfl ?_); refine goesL_ (some 12) rfl rfl Tryz.func22 (by kernel_rfl) rfl #[.agg #[.slice Ao74 t289.length co74, .string t292]] rfl am ?_; (with_reducible refine (msg_Message_From.calls (hG := by first | exact hG | exact Glob.below hG (by first | exact HB.out | (repeat (first | (with_reducible first | exact HB.out | apply below_alloc | apply pw_below_drewN | apply below_drew1 | refine below_set ?_ GE294.out | refine below_set ?_ GE299.out) | exact HB.out))) | exact Glob.drawn hG (d0)) k _ _ t289 t292 t295 t296 t297 t298 _ ?side1 ?side2 A2.out).mono ?_); (case side1 => refine (Kd.R_reads' (e := 46) (base := w.heap.size) (ok := fun k_ => True) (n := t289.length) (c := co74) ?_).2.2; exact (by (with_reducible repeat (first | apply Kd.R_alloc | apply Kd.R_drewN | apply Kd.R_drew)); exact (Kd.R_mono (Kd.R_far (p := ⟨gb294, 1, none⟩) (Kd.R_far (p := ⟨gb294, 0, none⟩) (Kd.R_types HO291.out BK294.out (by decide)) (fun _ hk => hk.2) (.slice Ao74 t289.length co74)) (fun _ hk => hk.2) (.string t292)) (fun _ h_ => h_.1)))); (case side2 => exact (Kd.R_reads' HO291.out).2.1); rintro e w76 ⟨rfl, hb⟩; refine ⟨_, rfl, ?_⟩; have n0_ := Aside0.mk (Kd.R_below (by (with_reducible repeat (first | apply Kd.R_alloc | apply Kd.R_drewN | apply Kd.R_drew)); exact (Kd.R_mono (Kd.R_far (p := ⟨gb294, 1, none⟩) (Kd.R_far (p := ⟨gb294, 0, none⟩) (Kd.R_types HO291.out BK294.out (by decide)) (fun _ hk => hk.2) (.slice Ao74 t289.length co74)) (fun _ hk => hk.2) (.string t292)) (fun _ h_ => h_.1))) hb); have n1_ := Aside0.mk (blk_below (g := gb294) (o := .cells #[.slice Ao74 t289.length co74, .string t292] 25 (0, 0)) (by (with_reducible repeat (first | refine blk_drewN ?_ _ | refine blk_drew ?_ | refine blk_alloc ?_ _)); refine blk_put (cs := #[.slice Ao74 t289.length co74, .string (⟨#[]⟩ : ByteArray)]) ?_ 1 _ rfl; (with_reducible repeat (first | refine blk_drewN ?_ _ | refine blk_drew ?_ | refine blk_alloc ?_ _)); exact blk_put (cs := #[.slice none 0 0, .string (⟨#[]⟩ : ByteArray)]) bk 0 _ rfl) hb); have n2_ := Aside0.mk (below_step bwS hb); clear HO291; clear BK294; clear HB; have HO291 := n0_; have BK294 := n1_; have HB := n2_; clear n0_ n1_ n2_; (try clear hb); (try clear hb2); (try clear hk); (try clear hi)) | ((with_reducible refine gate_dst (N := 3) rfl ?_); (try (refine gate_guard (by rfl) ?_; dsimp only)); refine box_event ?hg (N := 3) ?hd (cs := #[.string (⟨#[]⟩ : ByteArray), .string (⟨#[]⟩ : ByteArray), .string (⟨#[]⟩ : ByteArray)]) (t := 53) ?hr ?_; (case hd => rfl); (case hg => rfl); (case hr => first | (go_simp; done) | (go_simp; rfl)); intro gb299 hg w77 hbox hb; have n0_ := Aside0.mk (Kd.R_below (ra HO291.out) hb); have n1_ := Aside0.mk (blk_below (g := gb294) (o := .cells #[.slice Ao74 t289.length co74, .string t292] 25 (0, 0)) bk hb); have n2_ := Aside0.mk (below_step bwS hb); have n3_ := Aside0.mk (hbox); have n4_ := Aside0.mk ((by rw [hg]; exact (below_size bwS) : w.heap.size ≤ gb299)); have n5_ := Aside0.mk ((by rw [hg]; exact (below_size bwS) : w.heap.size ≤ gb299)); have n6_ := Aside0.mk ((by rw [hg]; exact Nat.ne_of_lt (blk_lt (g := gb294) (o := .cells #[.slice Ao74 t289.length co74, .string t292] 25 (0, 0)) bk) : gb294 ≠ gb299)); have n7_ := Aside0.mk ((by rw [hg]; exact Nat.ne_of_gt (blk_lt (g := gb294) (o := .cells #[.slice Ao74 t289.length co74, .string t292] 25 (0, 0)) bk) : gb299 ≠ gb294)); clear HO291; clear BK294; clear HB; have HO291 := n0_; have BK294 := n1_; have HB := n2_; have BK299 := n3_; have GW299 := n4_; have GE299 := n5_; have NB294_299 := n6_; have NB299_294 := n7_; clear n0_ n1_ n2_ n3_ n4_ n5_ n6_ n7_; clear hb hbox hg; have hnb78 := NB299_294.out; have hnc78 := NB294_299.out; have hcz79_0 : w77.cell? ⟨gb299, 0, none⟩ = some (.string (⟨#[]⟩ : ByteArray)) := (blk_cell BK299.out 0).trans rfl; have hcz79_1 : w77.cell? ⟨gb299, 1, none⟩ = some (.string (⟨#[]⟩ : ByteArray)) := (blk_cell BK299.out 1).trans rfl; have hcz79_2 : w77.cell? ⟨gb299, 2, none⟩ = some (.string (⟨#[]⟩ : ByteArray)) := (blk_cell BK299.out 2).trans rfl; have hfz79_0 := blk_frozen BK299.out 0; have hfz79_1 := blk_frozen BK299.out 1; have hfz79_2 := blk_frozen BK299.out 2; have hcz80_0 : w77.cell? ⟨gb294, 0, none⟩ = some (.slice Ao74 t289.length co74) := (blk_cell BK294.out 0).trans rfl; have hcz80_1 : w77.cell? ⟨gb294, 1, none⟩ = some (.string t292) := (blk_cell BK294.out 1).trans rfl; have hfz80_0 := blk_frozen BK294.out 0; have hfz80_1 := blk_frozen BK294.out 1) | ((with_reducible refine gate_callee (f := 16) rfl ?_); refine goesL_ (some 16) rfl rfl Tryz.func16 (by kernel_rfl) rfl #[.agg #[.slice Ao74 t289.length co74, .string t292]] rfl am ?_; (with_reducible refine (msg_Message_Lines.calls (hG := by first | exact hG | exact Glob.below hG (by first | exact HB.out | (repeat (first | (with_reducible first | exact HB.out | apply below_alloc | apply pw_below_drewN | apply below_drew1 | refine below_set ?_ GE294.out | refine below_set ?_ GE299.out) | exact HB.out))) | exact Glob.drawn hG (d0)) k _ _ t289 t292 t300 _ ?side1 ?side2 A3.out).mono ?_); (case side1 => refine (Kd.R_reads' (e := 46) (base := w.heap.size) (ok := fun k_ => True) (n := t289.length) (c := co74) ?_).2.2; exact (by (with_reducible repeat (first | apply Kd.R_alloc | apply Kd.R_drewN | apply Kd.R_drew)); exact (Kd.R_mono (Kd.R_far (p := ⟨gb299, 2, none⟩) (Kd.R_far (p := ⟨gb299, 1, none⟩) (Kd.R_far (p := ⟨gb299, 0, none⟩) (Kd.R_types HO291.out BK299.out (by decide)) (fun _ hk => hk.2) (.string t295)) (fun _ hk => hk.2) (.string t296)) (fun _ hk => hk.2) (.string t297)) (fun _ h_ => h_.1)))); (case side2 => exact (Kd.R_reads' HO291.out).2.1); rintro e w81 ⟨v301, rfl, ho0, hb⟩; refine ⟨_, rfl, ?_⟩; have n0_ := Aside0.mk (Kd.R_below (by (with_reducible repeat (first | apply Kd.R_alloc | apply Kd.R_drewN | apply Kd.R_drew)); exact (Kd.R_mono (Kd.R_far (p := ⟨gb299, 2, none⟩) (Kd.R_far (p := ⟨gb299, 1, none⟩) (Kd.R_far (p := ⟨gb299, 0, none⟩) (Kd.R_types HO291.out BK299.out (by decide)) (fun _ hk => hk.2) (.string t295)) (fun _ hk => hk.2) (.string t296)) (fun _ hk => hk.2) (.string t297)) (fun _ h_ => h_.1))) hb); have n1_ := Aside0.mk (Kd.R_lower ho0 (below_size bwS)); have n2_ := Aside0.mk (blk_below (g := gb294) (o := .cells #[.slice Ao74 t289.length co74, .string t292] 25 (0, 0)) (by (with_reducible repeat (first | refine blk_drewN ?_ _ | refine blk_drew ?_ | refine blk_alloc ?_ _)); refine blk_far ?_ NB294_299.out _; (with_reducible repeat (first | refine blk_drewN ?_ _ | refine blk_drew ?_ | refine blk_alloc ?_ _)); refine blk_far ?_ NB294_299.out _; (with_reducible repeat (first | refine blk_drewN ?_ _ | refine blk_drew ?_ | refine blk_alloc ?_ _)); refine blk_far ?_ NB294_299.out _; (with_reducible repeat (first | refine blk_drewN ?_ _ | refine blk_drew ?_ | refine blk_alloc ?_ _)); exact BK294.out) hb); have n3_ := Aside0.mk (blk_below (g := gb299) (o := .cells #[.string t295, .string t296, .string t297] 53 (0, 0)) (by (with_reducible repeat (first | refine blk_drewN ?_ _ | refine blk_drew ?_ | refine blk_alloc ?_ _)); refine blk_put (cs := #[.string t295, .string t296, .string (⟨#[]⟩ : ByteArray)]) ?_ 2 _ rfl; (with_reducible repeat (first | refine blk_drewN ?_ _ | refine blk_drew ?_ | refine blk_alloc ?_ _)); refine blk_put (cs := #[.string t295, .string (⟨#[]⟩ : ByteArray), .string (⟨#[]⟩ : ByteArray)]) ?_ 1 _ rfl; (with_reducible repeat (first | refine blk_drewN ?_ _ | refine blk_drew ?_ | refine blk_alloc ?_ _)); exact blk_put (cs := #[.string (⟨#[]⟩ : ByteArray), .string (⟨#[]⟩ : ByteArray), .string (⟨#[]⟩ : ByteArray)]) bk 0 _ rfl) hb); have n4_ := Aside0.mk (below_step bwS hb); clear HO291; clear BK294; clear BK299; clear HB; have HO291 := n0_; have HO302 := n1_; have BK294 := n2_; have BK299 := n3_; have HB := n4_; clear n0_ n1_ n2_ n3_ n4_; (try clear hb); (try clear hb2); (try clear hk); (try clear hi); (try clear ho0)))
   go_ret
   exact ⟨ew, bwS⟩
 ·rw [if_neg c4] at H; have c4b0 : (t293 == 0) = false := beq_eq_false_iff_ne.mpr c4; have c4b1 : (t293 != 0) = true := bne_iff_ne.mpr c4; obtain rfl := Option.some.inj H
  go_enter Tryz.func9, Tryz.ntmps9
  go_wp2_with (first | ((with_reducible refine gate_callee (f := 10) rfl ?_); refine goesL_ (some 7) rfl rfl Tryz.func10 (by kernel_rfl) rfl #[.string (⟨#[70, 114, 111, 109, 58, 32, 65, 110, 110, 32, 60, 97, 64, 98, 62, 13, 10, 13, 10, 104, 105, 13, 10]⟩ : ByteArray)] rfl am ?_; (with_reducible refine (msg_Parse.calls (hG := by first | exact hG | exact Glob.below hG (by first | exact HB.out | (repeat (first | (with_reducible first | exact HB.out | apply below_alloc | apply pw_below_drewN | apply below_drew1 | refine below_set ?_ GE294.out | refine below_set ?_ GE299.out) | exact HB.out))) | exact Glob.drawn hG (d0)) k (⟨#[70, 114, 111, 109, 58, 32, 65, 110, 110, 32, 60, 97, 64, 98, 62, 13, 10, 13, 10, 104, 105, 13, 10]⟩ : ByteArray) t289 t292 t293 _ A1.out).mono ?_); rintro e w82 ⟨v290, rfl, ho0, hb⟩; refine ⟨_, rfl, ?_⟩; have n0_ := Aside0.mk (Kd.R_lower ho0 (below_size bw)); have n1_ := Aside0.mk (below_step bw hb); clear HB; have HO291 := n0_; have HB := n1_; clear n0_ n1_; (try clear hb); (try clear hb2); (try clear hk); (try clear hi); (try clear ho0)) | ((with_reducible refine gate_dst (N := 1) rfl ?_); (try (refine gate_guard (by rfl) ?_; dsimp only)); refine box_event ?hg (N := 1) ?hd (cs := #[.slice none 0 0, .string (⟨#[]⟩ : ByteArray)]) (t := 25) ?hr ?_; (case hd => rfl); (case hg => rfl); (case hr => first | (go_simp; done) | (go_simp; rfl)); intro gb294 hg w83 hbox hb; have n0_ := Aside0.mk (Kd.R_below (ra HO291.out) hb); have n1_ := Aside0.mk (below_step bw hb); have n2_ := Aside0.mk (hbox); have n3_ := Aside0.mk ((by rw [hg]; exact (below_size bw) : w.heap.size ≤ gb294)); have n4_ := Aside0.mk ((by rw [hg]; exact (below_size bw) : w.heap.size ≤ gb294)); clear HO291; clear HB; have HO291 := n0_; have HB := n1_; have BK294 := n2_; have GW294 := n3_; have GE294 := n4_; clear n0_ n1_ n2_ n3_ n4_; clear hb hbox hg; obtain ⟨Ao84, co84, eo84⟩ := Kd.R_slice HO291.out; subst eo84; have hcz85_0 : w83.cell? ⟨gb294, 0, none⟩ = some (.slice none 0 0) := (blk_cell BK294.out 0).trans rfl; have hcz85_1 : w83.cell? ⟨gb294, 1, none⟩ = some (.string (⟨#[]⟩ : ByteArray)) := (blk_cell BK294.out 1).trans rfl; have hfz85_0 := blk_frozen BK294.out 0; have hfz85_1 := blk_frozen BK294.out 1) | ((with_reducible refine gate_callee (f := 22) rfl ?_); refine goesL_ (some 12) rfl rfl Tryz.func22 (by kernel_rfl) rfl #[.agg #[.slice Ao84 t289.length co84, .string t292]] rfl am ?_; (with_reducible refine (msg_Message_From.calls (hG := by first | exact hG | exact Glob.below hG (by first | exact HB.out | (repeat (first | (with_reducible first | exact HB.out | apply below_alloc | apply pw_below_drewN | apply below_drew1 | refine below_set ?_ GE294.out | refine below_set ?_ GE299.out) | exact HB.out))) | exact Glob.drawn hG (d0)) k _ _ t289 t292 t295 t296 t297 t298 _ ?side1 ?side2 A2.out).mono ?_); (case side1 => refine (Kd.R_reads' (e := 46) (base := w.heap.size) (ok := fun k_ => True) (n := t289.length) (c := co84) ?_).2.2; exact (by (with_reducible repeat (first | apply Kd.R_alloc | apply Kd.R_drewN | apply Kd.R_drew)); exact (Kd.R_mono (Kd.R_far (p := ⟨gb294, 1, none⟩) (Kd.R_far (p := ⟨gb294, 0, none⟩) (Kd.R_types HO291.out BK294.out (by decide)) (fun _ hk => hk.2) (.slice Ao84 t289.length co84)) (fun _ hk => hk.2) (.string t292)) (fun _ h_ => h_.1)))); (case side2 => exact (Kd.R_reads' HO291.out).2.1); rintro e w86 ⟨rfl, hb⟩; refine ⟨_, rfl, ?_⟩; have n0_ := Aside0.mk (Kd.R_below (by (with_reducible repeat (first | apply Kd.R_alloc | apply Kd.R_drewN | apply Kd.R_drew)); exact (Kd.R_mono (Kd.R_far (p := ⟨gb294, 1, none⟩) (Kd.R_far (p := ⟨gb294, 0, none⟩) (Kd.R_types HO291.out BK294.out (by decide)) (fun _ hk => hk.2) (.slice Ao84 t289.length co84)) (fun _ hk => hk.2) (.string t292)) (fun _ h_ => h_.1))) hb); have n1_ := Aside0.mk (blk_below (g := gb294) (o := .cells #[.slice Ao84 t289.length co84, .string t292] 25 (0, 0)) (by (with_reducible repeat (first | refine blk_drewN ?_ _ | refine blk_drew ?_ | refine blk_alloc ?_ _)); refine blk_put (cs := #[.slice Ao84 t289.length co84, .string (⟨#[]⟩ : ByteArray)]) ?_ 1 _ rfl; (with_reducible repeat (first | refine blk_drewN ?_ _ | refine blk_drew ?_ | refine blk_alloc ?_ _)); exact blk_put (cs := #[.slice none 0 0, .string (⟨#[]⟩ : ByteArray)]) bk 0 _ rfl) hb); have n2_ := Aside0.mk (below_step bwS hb); clear HO291; clear BK294; clear HB; have HO291 := n0_; have BK294 := n1_; have HB := n2_; clear n0_ n1_ n2_; (try clear hb); (try clear hb2); (try clear hk); (try clear hi)) | ((with_reducible refine gate_dst (N := 3) rfl ?_); (try (refine gate_guard (by rfl) ?_; dsimp only)); refine box_event ?hg (N := 3) ?hd (cs := #[.string (⟨#[]⟩ : ByteArray), .string (⟨#[]⟩ : ByteArray), .string (⟨#[]⟩ : ByteArray)]) (t := 53) ?hr ?_; (case hd => rfl); (case hg => rfl); (case hr => first | (go_simp; done) | (go_simp; rfl)); intro gb299 hg w87 hbox hb; have n0_ := Aside0.mk (Kd.R_below (ra HO291.out) hb); have n1_ := Aside0.mk (blk_below (g := gb294) (o := .cells #[.slice Ao84 t289.length co84, .string t292] 25 (0, 0)) bk hb); have n2_ := Aside0.mk (below_step bwS hb); have n3_ := Aside0.mk (hbox); have n4_ := Aside0.mk ((by rw [hg]; exact (below_size bwS) : w.heap.size ≤ gb299)); have n5_ := Aside0.mk ((by rw [hg]; exact (below_size bwS) : w.heap.size ≤ gb299)); have n6_ := Aside0.mk ((by rw [hg]; exact Nat.ne_of_lt (blk_lt (g := gb294) (o := .cells #[.slice Ao84 t289.length co84, .string t292] 25 (0, 0)) bk) : gb294 ≠ gb299)); have n7_ := Aside0.mk ((by rw [hg]; exact Nat.ne_of_gt (blk_lt (g := gb294) (o := .cells #[.slice Ao84 t289.length co84, .string t292] 25 (0, 0)) bk) : gb299 ≠ gb294)); clear HO291; clear BK294; clear HB; have HO291 := n0_; have BK294 := n1_; have HB := n2_; have BK299 := n3_; have GW299 := n4_; have GE299 := n5_; have NB294_299 := n6_; have NB299_294 := n7_; clear n0_ n1_ n2_ n3_ n4_ n5_ n6_ n7_; clear hb hbox hg; have hnb88 := NB299_294.out; have hnc88 := NB294_299.out; have hcz89_0 : w87.cell? ⟨gb299, 0, none⟩ = some (.string (⟨#[]⟩ : ByteArray)) := (blk_cell BK299.out 0).trans rfl; have hcz89_1 : w87.cell? ⟨gb299, 1, none⟩ = some (.string (⟨#[]⟩ : ByteArray)) := (blk_cell BK299.out 1).trans rfl; have hcz89_2 : w87.cell? ⟨gb299, 2, none⟩ = some (.string (⟨#[]⟩ : ByteArray)) := (blk_cell BK299.out 2).trans rfl; have hfz89_0 := blk_frozen BK299.out 0; have hfz89_1 := blk_frozen BK299.out 1; have hfz89_2 := blk_frozen BK299.out 2; have hcz90_0 : w87.cell? ⟨gb294, 0, none⟩ = some (.slice Ao84 t289.length co84) := (blk_cell BK294.out 0).trans rfl; have hcz90_1 : w87.cell? ⟨gb294, 1, none⟩ = some (.string t292) := (blk_cell BK294.out 1).trans rfl; have hfz90_0 := blk_frozen BK294.out 0; have hfz90_1 := blk_frozen BK294.out 1) | ((with_reducible refine gate_callee (f := 16) rfl ?_); refine goesL_ (some 16) rfl rfl Tryz.func16 (by kernel_rfl) rfl #[.agg #[.slice Ao84 t289.length co84, .string t292]] rfl am ?_; (with_reducible refine (msg_Message_Lines.calls (hG := by first | exact hG | exact Glob.below hG (by first | exact HB.out | (repeat (first | (with_reducible first | exact HB.out | apply below_alloc | apply pw_below_drewN | apply below_drew1 | refine below_set ?_ GE294.out | refine below_set ?_ GE299.out) | exact HB.out))) | exact Glob.drawn hG (d0)) k _ _ t289 t292 t300 _ ?side1 ?side2 A3.out).mono ?_); (case side1 => refine (Kd.R_reads' (e := 46) (base := w.heap.size) (ok := fun k_ => True) (n := t289.length) (c := co84) ?_).2.2; exact (by (with_reducible repeat (first | apply Kd.R_alloc | apply Kd.R_drewN | apply Kd.R_drew)); exact (Kd.R_mono (Kd.R_far (p := ⟨gb299, 2, none⟩) (Kd.R_far (p := ⟨gb299, 1, none⟩) (Kd.R_far (p := ⟨gb299, 0, none⟩) (Kd.R_types HO291.out BK299.out (by decide)) (fun _ hk => hk.2) (.string t295)) (fun _ hk => hk.2) (.string t296)) (fun _ hk => hk.2) (.string t297)) (fun _ h_ => h_.1)))); (case side2 => exact (Kd.R_reads' HO291.out).2.1); rintro e w91 ⟨v301, rfl, ho0, hb⟩; refine ⟨_, rfl, ?_⟩; have n0_ := Aside0.mk (Kd.R_below (by (with_reducible repeat (first | apply Kd.R_alloc | apply Kd.R_drewN | apply Kd.R_drew)); exact (Kd.R_mono (Kd.R_far (p := ⟨gb299, 2, none⟩) (Kd.R_far (p := ⟨gb299, 1, none⟩) (Kd.R_far (p := ⟨gb299, 0, none⟩) (Kd.R_types HO291.out BK299.out (by decide)) (fun _ hk => hk.2) (.string t295)) (fun _ hk => hk.2) (.string t296)) (fun _ hk => hk.2) (.string t297)) (fun _ h_ => h_.1))) hb); have n1_ := Aside0.mk (Kd.R_lower ho0 (below_size bwS)); have n2_ := Aside0.mk (blk_below (g := gb294) (o := .cells #[.slice Ao84 t289.length co84, .string t292] 25 (0, 0)) (by (with_reducible repeat (first | refine blk_drewN ?_ _ | refine blk_drew ?_ | refine blk_alloc ?_ _)); refine blk_far ?_ NB294_299.out _; (with_reducible repeat (first | refine blk_drewN ?_ _ | refine blk_drew ?_ | refine blk_alloc ?_ _)); refine blk_far ?_ NB294_299.out _; (with_reducible repeat (first | refine blk_drewN ?_ _ | refine blk_drew ?_ | refine blk_alloc ?_ _)); refine blk_far ?_ NB294_299.out _; (with_reducible repeat (first | refine blk_drewN ?_ _ | refine blk_drew ?_ | refine blk_alloc ?_ _)); exact BK294.out) hb); have n3_ := Aside0.mk (blk_below (g := gb299) (o := .cells #[.string t295, .string t296, .string t297] 53 (0, 0)) (by (with_reducible repeat (first | refine blk_drewN ?_ _ | refine blk_drew ?_ | refine blk_alloc ?_ _)); refine blk_put (cs := #[.string t295, .string t296, .string (⟨#[]⟩ : ByteArray)]) ?_ 2 _ rfl; (with_reducible repeat (first | refine blk_drewN ?_ _ | refine blk_drew ?_ | refine blk_alloc ?_ _)); refine blk_put (cs := #[.string t295, .string (⟨#[]⟩ : ByteArray), .string (⟨#[]⟩ : ByteArray)]) ?_ 1 _ rfl; (with_reducible repeat (first | refine blk_drewN ?_ _ | refine blk_drew ?_ | refine blk_alloc ?_ _)); exact blk_put (cs := #[.string (⟨#[]⟩ : ByteArray), .string (⟨#[]⟩ : ByteArray), .string (⟨#[]⟩ : ByteArray)]) bk 0 _ rfl) hb); have n4_ := Aside0.mk (below_step bwS hb); clear HO291; clear BK294; clear BK299; clear HB; have HO291 := n0_; have HO302 := n1_; have BK294 := n2_; have BK299 := n3_; have HB := n4_; clear n0_ n1_ n2_ n3_ n4_; (try clear hb); (try clear hb2); (try clear hk); (try clear hi); (try clear ho0)))
  go_ret
  exact ⟨ew, bwS⟩

end Go.Proofs.YtbjbpgmjijeppaaGreatDoor.Fn
namespace Go.Proofs.YtbjbpgmjijeppaaGreatDoor.Fn
open Go.RowKit Go.Proofs.YtbjbpgmjijeppaaGreatDoorW.PrintWords Go.Proofs.YtbjbpgmjijeppaaGreatDoorW.PrintLast Go.Proofs.YtbjbpgmjijeppaaGreatDoorW.PrintMore
attribute [local go_sem] max2_int min2_int max_two min_two max_three min_three max_four min_four
set_option linter.unusedVariables false
set_option linter.unusedSimpArgs false

def bulletinref15_blank.f (a0 : Int) : Option (Bool) := if a0 = 32 then (some true) else (some (a0 == 9))
set_option maxHeartbeats 8000000 in
set_option maxRecDepth 100000 in
theorem bulletinref15_blank.calls (a0 : Int) (r : Bool) (w : World) (h : bulletinref15_blank.f a0 = some r) :
  Calls Tryz.prog 63 #[.int .u8 a0] w fun e w' => e = .returned (.bool r) ∧ Drawn0 w w' := by
 have H : (if a0 = 32 then (some true) else (some (a0 == 9))) = some r := h; clear h
 by_cases c2 : a0 = 32
 ·rw [if_pos c2] at H; have c2b0 : (a0 == 32) = true := beq_iff_eq.mpr c2; have c2b1 : (a0 != 32) = false := bne_eq_false_iff_eq.mpr c2; clear c2; obtain rfl := Option.some.inj H
  go_enter Tryz.func63, Tryz.ntmps63
  go_wp2
  go_ret
  exact ⟨cl, d0⟩
 ·rw [if_neg c2] at H; have c2b0 : (a0 == 32) = false := beq_eq_false_iff_ne.mpr c2; have c2b1 : (a0 != 32) = true := bne_iff_ne.mpr c2; obtain rfl := Option.some.inj H
  go_enter Tryz.func63, Tryz.ntmps63
  go_wp2
  go_ret
  exact ⟨cl, d0⟩

end Go.Proofs.YtbjbpgmjijeppaaGreatDoor.Fn
namespace Go.Proofs.YtbjbpgmjijeppaaGreatDoor.Fn
open Go.RowKit Go.Proofs.YtbjbpgmjijeppaaGreatDoorW.PrintWords Go.Proofs.YtbjbpgmjijeppaaGreatDoorW.PrintLast Go.Proofs.YtbjbpgmjijeppaaGreatDoorW.PrintMore
attribute [local go_sem] max2_int min2_int max_two min_two max_three min_three max_four min_four
set_option linter.unusedVariables false
set_option linter.unusedSimpArgs false

mutual
def bulletinref15_Trim.j1 : Nat → ByteArray → Option (ByteArray)
 | 0, _ => none
 | k + 1, x0 => bulletinref15_Trim.l1 k x0
def bulletinref15_Trim.l1 : Nat → ByteArray → Option (ByteArray)
 | 0, _ => none
 | k + 1, x0 => if (x0.size : Int) > 0 then (if 0 ≤ (wrap64 ((x0.size : Int) - 1)) then (if (wrap64 ((x0.size : Int) - 1)) < (x0.size : Int) then ((bulletinref15_blank.f (bt x0 (wrap64 ((x0.size : Int) - 1)))).bind fun t306 => (if t306 = true then (if (wrap64 ((x0.size : Int) - 1)) ≤ (x0.size : Int) then (bulletinref15_Trim.l1 k (x0.extract 0 ((wrap64 ((x0.size : Int) - 1)) : Int).toNat)) else (none)) else (some x0))) else (none)) else (none)) else (some x0)
def bulletinref15_Trim.l0 : Nat → ByteArray → Option (ByteArray)
 | 0, _ => none
 | k + 1, x0 => if (x0.size : Int) > 0 then (if 0 < (x0.size : Int) then ((bulletinref15_blank.f (bt x0 0)).bind fun t305 => (if t305 = true then (if 1 ≤ (x0.size : Int) then (bulletinref15_Trim.l0 k (x0.extract 1 x0.size)) else (none)) else (bulletinref15_Trim.j1 k x0))) else (none)) else (bulletinref15_Trim.j1 k x0)
end
def bulletinref15_Trim.f (k : Nat) (a0 : ByteArray) : Option (ByteArray) := bulletinref15_Trim.l0 k a0
set_option maxHeartbeats 8000000 in
set_option maxRecDepth 100000 in
theorem bulletinref15_Trim.calls (k : Nat) (a0 : ByteArray) (r : ByteArray) (w : World) (h : bulletinref15_Trim.f k a0 = some r) :
  Calls Tryz.prog 65 #[.string a0] w fun e w' => e = .returned (.string r) ∧ Drawn0 w w' := by
 have H : (bulletinref15_Trim.l0 k a0) = some r := h; clear h; have HC2 := Aside0.mk H; clear H
 go_enter Tryz.func65, Tryz.ntmps65
 go_upto_block 0 with (fail)
 go_cut [0] (fun v0 wc => ∃ (kq : Nat) (x0_1 : ByteArray), v0 = .string x0_1 ∧ Aside0 (bulletinref15_Trim.j1 kq x0_1 = some r) ∧ Aside0 (kq ≤ k) ∧ Drawn0 w wc)
 case first =>
  have H := HC2.out; clear HC2; have H' := Aside0.mk H; clear H
  go_wp2
  go_loopg [0] k (fun kq v0 w' => ∃ (x0_1 : ByteArray), v0 = .string x0_1 ∧ Aside0 (bulletinref15_Trim.l0 kq x0_1 = some r) ∧ Aside0 (kq ≤ k) ∧ Drawn0 w w')
  case atStart => exact ⟨(a0), cl, H', ⟨Nat.le_refl _⟩, d0⟩
  case round =>
   clear H'
   try clear p2
   obtain ⟨x0_1, rfl, HA, HK1, ⟨m1, rfl⟩⟩ := hrel; cases gk with
   | zero => exact absurd HA.out (by simp [bulletinref15_Trim.l0])
   | succ k1 =>
    have H := HA.out; clear HA; simp only [bulletinref15_Trim.l0] at H
    by_cases c3 : (x0_1.size : Int) > 0
    ·rw [if_pos c3] at H; have c3b0 : decide (0 < (x0_1.size : Int)) = true := decide_eq_true c3; have c3b1 : decide (0 < x0_1.size) = true := decide_eq_true (by omega); clear c3
     (first | rw [c3b0] | (simp only [i64_w, i32_w]; rw [c3b0]) | skip)
     by_cases c4 : 0 < (x0_1.size : Int)
     ·rw [if_pos c4] at H; have c4b0 : decide (0 < (x0_1.size : Int)) = true := decide_eq_true c4; have c4b1 : decide (0 < x0_1.size) = true := decide_eq_true (by omega); clear c4; replace H := Option.bind_eq_some_iff.mp H; obtain ⟨t305, A60, H⟩ := H; replace H : (if t305 = true then (if 1 ≤ (x0_1.size : Int) then (bulletinref15_Trim.l0 k1 (x0_1.extract 1 x0_1.size)) else (none)) else (bulletinref15_Trim.j1 k1 x0_1)) = some r := H; have A6 := Aside0.mk A60; clear A60
      by_cases c7 : t305 = true
      ·subst c7; have H1 : (if 1 ≤ (x0_1.size : Int) then (bulletinref15_Trim.l0 k1 (x0_1.extract 1 x0_1.size)) else (none)) = some r := by rw [if_pos rfl] at H; exact H
       clear H; have H := H1; clear H1
       by_cases c8 : 1 ≤ (x0_1.size : Int)
       ·rw [if_pos c8] at H; have c8b0 := eq_true c8; have c8b1 : decide (1 ≤ (x0_1.size : Int)) = true := decide_eq_true c8; clear c8; have H' := Aside0.mk H; clear H; have p5 : 0 ≤ (0 : Int) := (by omega)
        have q5 : 0 < x0_1.size := (by have : (0 : Int) < (x0_1.size : Int) := od; omega)
        have hx5 : ∀ h : 0 < x0_1.size, ((x0_1[0]'h).toNat : Int) = bt x0_1 0 := bt_at x0_1 0; clear p5; have qi5 : (0 < (x0_1.size : Int)) = True := eq_true (od); replace q5 := eq_true q5
        go_wp2_with (first | (go_at_call 63; (with_reducible refine (bulletinref15_blank.calls (bt x0_1 0) true _ A6.out).mono ?_); rintro e w' ⟨rfl, ⟨nd, rfl⟩⟩))
        go_roundg k1
        case measure => have := HK1.out; omega
        case rel => exact ⟨(x0_1.extract 1 x0_1.size), cl, H', ⟨by have := HK1.out; omega⟩, d0⟩
       ·rw [if_neg c8] at H; exact absurd H (by simp)
      ·replace c7 := Bool.eq_false_iff.mpr c7; subst c7; have H1 : (bulletinref15_Trim.j1 k1 x0_1) = some r := by rw [if_neg (show ¬ (false = true) by decide)] at H; exact H
       clear H; have H := H1; clear H1; have H' := Aside0.mk H; clear H; have p5 : 0 ≤ (0 : Int) := (by omega)
       have q5 : 0 < x0_1.size := (by have : (0 : Int) < (x0_1.size : Int) := od; omega)
       have hx5 : ∀ h : 0 < x0_1.size, ((x0_1[0]'h).toNat : Int) = bt x0_1 0 := bt_at x0_1 0; clear p5; have qi5 : (0 < (x0_1.size : Int)) = True := eq_true (od); replace q5 := eq_true q5
       go_wp2_with (first | (go_at_call 63; (with_reducible refine (bulletinref15_blank.calls (bt x0_1 0) false _ A6.out).mono ?_); rintro e w' ⟨rfl, ⟨nd, rfl⟩⟩))
       go_meet
       case rel => exact ⟨_, (x0_1), cl, H', ⟨by have := HK1.out; first | omega | exact Nat.le_refl _⟩, d0⟩
     ·rw [if_neg c4] at H; exact absurd H (by simp)
    ·rw [if_neg c3] at H; have c3b0 : decide (0 < (x0_1.size : Int)) = false := decide_eq_false c3; have c3b1 : decide (0 < x0_1.size) = false := decide_eq_false (by omega); clear c3
     (first | rw [c3b0] | (simp only [i64_w, i32_w]; rw [c3b0]) | skip)
     have H' := Aside0.mk H; clear H
     go_wp2
     go_meet
     case rel => exact ⟨_, (x0_1), cl, H', ⟨by have := HK1.out; first | omega | exact Nat.le_refl _⟩, d0⟩
 case rest =>
  clear HC2
  try clear p2
  try clear c3
  try clear c3b0
  try clear c3b1
  try clear c4
  try clear c4b0
  try clear c4b1
  try clear p5
  try clear q5
  try clear hx5
  try clear qi5
  try clear c6
  try clear c7
  try clear c8
  try clear c8b0
  try clear c8b1
  try clear p2
  try clear p5
  try clear q5
  obtain ⟨kq, x0_1, rfl, HA, HJ1, ⟨mc1, rfl⟩⟩ := hcut; cases kq with
  | zero => exact absurd HA.out (by simp [bulletinref15_Trim.j1])
  | succ kj1 =>
   have H := HA.out; clear HA; simp only [bulletinref15_Trim.j1] at H; have H' := Aside0.mk H; clear H
   go_wp2
   go_loopg [0] kj1 (fun kq v0 w' => ∃ (x0_2 : ByteArray), v0 = .string x0_2 ∧ Aside0 (bulletinref15_Trim.l1 kq x0_2 = some r) ∧ Aside0 (kq ≤ kj1) ∧ Drawn0 w w')
   case atStart => exact ⟨(x0_1), cl, H', ⟨Nat.le_refl _⟩, d0⟩
   case round =>
    clear H'
    try clear c1
    try clear p2
    try clear c3
    try clear c3b0
    try clear c3b1
    try clear c4
    try clear c4b0
    try clear c4b1
    try clear p5
    try clear q5
    try clear hx5
    try clear qi5
    try clear c6
    try clear c7
    try clear c8
    try clear c8b0
    try clear c8b1
    try clear p2
    try clear p5
    try clear q5
    obtain ⟨x0_2, rfl, HA, HK2, ⟨m2, rfl⟩⟩ := hrel; cases gk with
    | zero => exact absurd HA.out (by simp [bulletinref15_Trim.l1])
    | succ k2 =>
     have H := HA.out; clear HA; simp only [bulletinref15_Trim.l1] at H
     by_cases c9 : (x0_2.size : Int) > 0
     ·rw [if_pos c9] at H; have c9b0 : decide (0 < (x0_2.size : Int)) = true := decide_eq_true c9; have c9b1 : decide (0 < x0_2.size) = true := decide_eq_true (by omega); clear c9; obtain ⟨ji10, hji10⟩ : ∃ j_ : Int, (wrap64 ((x0_2.size : Int) - 1)) = j_ := ⟨_, rfl⟩
      replace H : (if 0 ≤ (ji10) then (if (ji10) < (x0_2.size : Int) then ((bulletinref15_blank.f (bt x0_2 (ji10))).bind fun t306 => (if t306 = true then (if (ji10) ≤ (x0_2.size : Int) then (bulletinref15_Trim.l1 k2 (x0_2.extract 0 ((ji10) : Int).toNat)) else (none)) else (some x0_2))) else (none)) else (none)) = some r := by first | (rw [hji10] at H; exact H) | (simp only [hji10] at H ⊢; exact H)
      have hji10w : (IntKind.i64.wrap ((x0_2.size : Int) - 1)) = ji10 := (i64_w _).trans hji10
      by_cases c11 : 0 ≤ (ji10)
      ·rw [if_pos c11] at H; have c11b0 : decide (0 ≤ (ji10)) = true := decide_eq_true c11; clear c11
       by_cases c12 : (ji10) < (x0_2.size : Int)
       ·rw [if_pos c12] at H; have c12b0 : decide ((ji10) < (x0_2.size : Int)) = true := decide_eq_true c12; clear c12; replace H := Option.bind_eq_some_iff.mp H; obtain ⟨t306, A140, H⟩ := H; replace H : (if t306 = true then (if (ji10) ≤ (x0_2.size : Int) then (bulletinref15_Trim.l1 k2 (x0_2.extract 0 ((ji10) : Int).toNat)) else (none)) else (some x0_2)) = some r := H; have A14 := Aside0.mk A140; clear A140
        by_cases c15 : t306 = true
        ·subst c15; have H1 : (if (ji10) ≤ (x0_2.size : Int) then (bulletinref15_Trim.l1 k2 (x0_2.extract 0 ((ji10) : Int).toNat)) else (none)) = some r := by rw [if_pos rfl] at H; exact H
         clear H; have H := H1; clear H1; have c16b0 := eq_true (od : 0 ≤ (ji10))
         by_cases c17 : (ji10) ≤ (x0_2.size : Int)
         ·rw [if_pos c17] at H; have c17b0 := eq_true c17; have c17b1 : decide ((ji10) ≤ (x0_2.size : Int)) = true := decide_eq_true c17; clear c17; have H' := Aside0.mk H; clear H; have p13 : 0 ≤ ((ji10) : Int) := od; have q13 : (ji10) < (x0_2.size : Int) := od; have hx13 := bt_at x0_2 (ji10); replace p13 := eq_true p13; replace q13 := eq_true q13
          go_wp2_with (first | (go_at_call 63; (with_reducible refine (bulletinref15_blank.calls (bt x0_2 (ji10)) true _ A14.out).mono ?_); rintro e w' ⟨rfl, ⟨nd, rfl⟩⟩))
          go_roundg k2
          case measure => have := HJ1.out; have := HK2.out; omega
          case rel => exact ⟨(x0_2.extract 0 ((ji10) : Int).toNat), (by first | rfl | (simp; done) | (simp only [← hji10] <;> (first | rfl | simp)) | (simp [*]; done) | (simp [nil_ne]; done)), H', ⟨by have := HJ1.out; have := HK2.out; omega⟩, d0⟩
         ·rw [if_neg c17] at H; exact absurd H (by simp)
        ·replace c15 := Bool.eq_false_iff.mpr c15; subst c15; have H1 : (some x0_2) = some r := by rw [if_neg (show ¬ (false = true) by decide)] at H; exact H
         clear H; have H := H1; clear H1; obtain rfl := Option.some.inj H; have p13 : 0 ≤ ((ji10) : Int) := od; have q13 : (ji10) < (x0_2.size : Int) := od; have hx13 := bt_at x0_2 (ji10); replace p13 := eq_true p13; replace q13 := eq_true q13
         go_wp2_with (first | (go_at_call 63; (with_reducible refine (bulletinref15_blank.calls (bt x0_2 (ji10)) false _ A14.out).mono ?_); rintro e w' ⟨rfl, ⟨nd, rfl⟩⟩))
         go_ret
         exact ⟨by first | rfl | (simp; done) | (simp only [← hji10] <;> (first | rfl | simp)) | (simp [*]; done) | (simp [nil_ne]; done), d0⟩
       ·rw [if_neg c12] at H; exact absurd H (by simp)
      ·rw [if_neg c11] at H; exact absurd H (by simp)
     ·rw [if_neg c9] at H; have c9b0 : decide (0 < (x0_2.size : Int)) = false := decide_eq_false c9; have c9b1 : decide (0 < x0_2.size) = false := decide_eq_false (by omega); clear c9; obtain rfl := Option.some.inj H
      go_wp2
      go_ret
      exact ⟨cl, d0⟩

end Go.Proofs.YtbjbpgmjijeppaaGreatDoor.Fn
namespace Go.Proofs.YtbjbpgmjijeppaaGreatDoor.Fn
open Go.RowKit Go.Proofs.YtbjbpgmjijeppaaGreatDoorW.PrintWords Go.Proofs.YtbjbpgmjijeppaaGreatDoorW.PrintLast Go.Proofs.YtbjbpgmjijeppaaGreatDoorW.PrintMore
attribute [local go_sem] max2_int min2_int max_two min_two max_three min_three max_four min_four
set_option linter.unusedVariables false
set_option linter.unusedSimpArgs false

def bulletinref15_line.l0 : Nat → ByteArray → Int → Option (Int)
 | 0, _, _ => none
 | k + 1, x0, x3 => if (wrap64 (x3 + 1)) < (x0.size : Int) then (if 0 ≤ x3 then (if x3 < (x0.size : Int) then (if (bt x0 x3) = 13 then (if 0 ≤ (wrap64 (x3 + 1)) then (if (bt x0 (wrap64 (x3 + 1))) = 10 then (some x3) else (bulletinref15_line.l0 k x0 (wrap64 (x3 + 1)))) else (none)) else (bulletinref15_line.l0 k x0 (wrap64 (x3 + 1)))) else (none)) else (none)) else (some (-1))
def bulletinref15_line.f (k : Nat) (a0 : ByteArray) : Option (Int) := bulletinref15_line.l0 k a0 0
set_option maxHeartbeats 8000000 in
set_option maxRecDepth 100000 in
theorem bulletinref15_line.calls (k : Nat) (a0 : ByteArray) (r : Int) (w : World) (h : bulletinref15_line.f k a0 = some r) :
  Calls Tryz.prog 61 #[.string a0] w fun e w' => e = .returned (.int .i64 r) ∧ Drawn0 w w' := by
 have H : (bulletinref15_line.l0 k a0 0) = some r := h; clear h; have H' := Aside0.mk H; clear H
 go_enter Tryz.func61, Tryz.ntmps61
 go_wp2
 go_loopg [3] k (fun kq v3 w' => ∃ (x3_1 : Int), v3 = .int .i64 x3_1 ∧ Aside0 (bulletinref15_line.l0 kq a0 x3_1 = some r) ∧ Aside0 (kq ≤ k) ∧ Drawn0 w w')
 case atStart => exact ⟨(0), cl, H', ⟨Nat.le_refl _⟩, d0⟩
 case round =>
  clear H'; obtain ⟨x3_1, rfl, HA, HK1, ⟨m1, rfl⟩⟩ := hrel; cases gk with
  | zero => exact absurd HA.out (by simp [bulletinref15_line.l0])
  | succ k1 =>
   have H := HA.out; clear HA; simp only [bulletinref15_line.l0] at H
   by_cases c2 : (wrap64 (x3_1 + 1)) < (a0.size : Int)
   ·rw [if_pos c2] at H; have c2b0 : decide ((wrap64 (x3_1 + 1)) < (a0.size : Int)) = true := decide_eq_true c2; clear c2
    by_cases c3 : 0 ≤ x3_1
    ·rw [if_pos c3] at H; have c3b0 : decide (0 ≤ x3_1) = true := decide_eq_true c3; clear c3
     by_cases c4 : x3_1 < (a0.size : Int)
     ·rw [if_pos c4] at H; have c4b0 : decide (x3_1 < (a0.size : Int)) = true := decide_eq_true c4; clear c4
      by_cases c6 : (bt a0 x3_1) = 13
      ·rw [if_pos c6] at H; have c6b0 : ((bt a0 x3_1) == 13) = true := beq_iff_eq.mpr c6; have c6b1 : ((bt a0 x3_1) != 13) = false := bne_eq_false_iff_eq.mpr c6; clear c6; obtain ⟨ji7, hji7⟩ : ∃ j_ : Int, (wrap64 (x3_1 + 1)) = j_ := ⟨_, rfl⟩
       replace H : (if 0 ≤ (ji7) then (if (bt a0 (ji7)) = 10 then (some x3_1) else (bulletinref15_line.l0 k1 a0 ji7)) else (none)) = some r := by first | (rw [hji7] at H; exact H) | (simp only [hji7] at H ⊢; exact H)
       (try rw [hji7] at c2b0)
       have hji7w : (IntKind.i64.wrap (x3_1 + 1)) = ji7 := (i64_w _).trans hji7
       by_cases c8 : 0 ≤ (ji7)
       ·rw [if_pos c8] at H; have c8b0 : decide (0 ≤ (ji7)) = true := decide_eq_true c8; clear c8
        by_cases c10 : (bt a0 (ji7)) = 10
        ·rw [if_pos c10] at H; have c10b0 : ((bt a0 (ji7)) == 10) = true := beq_iff_eq.mpr c10; have c10b1 : ((bt a0 (ji7)) != 10) = false := bne_eq_false_iff_eq.mpr c10; clear c10; obtain rfl := Option.some.inj H; have p5 : 0 ≤ (x3_1 : Int) := od; have q5 : x3_1 < (a0.size : Int) := od; have hx5 := bt_at a0 x3_1; replace p5 := eq_true p5; replace q5 := eq_true q5; have p9 : 0 ≤ ((ji7) : Int) := od; have q9 : (ji7) < (a0.size : Int) := od; have hx9 := bt_at a0 (ji7); replace p9 := eq_true p9; replace q9 := eq_true q9
         go_wp2
         go_ret
         exact ⟨by first | rfl | (simp; done) | (simp only [← hji7] <;> (first | rfl | simp)) | (simp [*]; done) | (simp [nil_ne]; done), d0⟩
        ·rw [if_neg c10] at H; have c10b0 : ((bt a0 (ji7)) == 10) = false := beq_eq_false_iff_ne.mpr c10; have c10b1 : ((bt a0 (ji7)) != 10) = true := bne_iff_ne.mpr c10; have H' := Aside0.mk H; clear H; have p5 : 0 ≤ (x3_1 : Int) := od; have q5 : x3_1 < (a0.size : Int) := od; have hx5 := bt_at a0 x3_1; replace p5 := eq_true p5; replace q5 := eq_true q5; have p9 : 0 ≤ ((ji7) : Int) := od; have q9 : (ji7) < (a0.size : Int) := od; have hx9 := bt_at a0 (ji7); replace p9 := eq_true p9; replace q9 := eq_true q9
         go_wp2
         go_roundg k1
         case measure => have := HK1.out; omega
         case rel => exact ⟨(ji7), (by first | rfl | (simp; done) | (simp only [← hji7] <;> (first | rfl | simp)) | (simp [*]; done) | (simp [nil_ne]; done)), H', ⟨by have := HK1.out; omega⟩, d0⟩
       ·rw [if_neg c8] at H; exact absurd H (by simp)
      ·rw [if_neg c6] at H; have c6b0 : ((bt a0 x3_1) == 13) = false := beq_eq_false_iff_ne.mpr c6; have c6b1 : ((bt a0 x3_1) != 13) = true := bne_iff_ne.mpr c6; have H' := Aside0.mk H; clear H; have p5 : 0 ≤ (x3_1 : Int) := od; have q5 : x3_1 < (a0.size : Int) := od; have hx5 := bt_at a0 x3_1; replace p5 := eq_true p5; replace q5 := eq_true q5
       go_wp2
       go_roundg k1
       case measure => have := HK1.out; omega
       case rel => exact ⟨(wrap64 (x3_1 + 1)), cl, H', ⟨by have := HK1.out; omega⟩, d0⟩
     ·rw [if_neg c4] at H; exact absurd H (by simp)
    ·rw [if_neg c3] at H; exact absurd H (by simp)
   ·rw [if_neg c2] at H; have c2b0 : decide ((wrap64 (x3_1 + 1)) < (a0.size : Int)) = false := decide_eq_false c2; clear c2; obtain rfl := Option.some.inj H
    go_wp2
    go_ret
    exact ⟨cl, d0⟩

end Go.Proofs.YtbjbpgmjijeppaaGreatDoor.Fn
namespace Go.Proofs.YtbjbpgmjijeppaaGreatDoor.Fn
open Go.RowKit Go.Proofs.YtbjbpgmjijeppaaGreatDoorW.PrintWords Go.Proofs.YtbjbpgmjijeppaaGreatDoorW.PrintLast Go.Proofs.YtbjbpgmjijeppaaGreatDoorW.PrintMore
attribute [local go_sem] max2_int min2_int max_two min_two max_three min_three max_four min_four
set_option linter.unusedVariables false
set_option linter.unusedSimpArgs false

def bulletinref15_named.l0 : Nat → ByteArray → Int → Option (Bool)
 | 0, _, _ => none
 | k + 1, x0, x3 => if x3 < (x0.size : Int) then (if 0 ≤ x3 then (if (bt x0 x3) < 33 then (some false) else (if (bt x0 x3) > 126 then (some false) else (if (bt x0 x3) = 58 then (some false) else (bulletinref15_named.l0 k x0 (wrap64 (x3 + 1)))))) else (none)) else (if (x0.size : Int) ≥ 1 then (some (decide ((x0.size : Int) ≤ 76))) else (some false))
def bulletinref15_named.f (k : Nat) (a0 : ByteArray) : Option (Bool) := bulletinref15_named.l0 k a0 0
set_option maxHeartbeats 8000000 in
set_option maxRecDepth 100000 in
theorem bulletinref15_named.calls (k : Nat) (a0 : ByteArray) (r : Bool) (w : World) (h : bulletinref15_named.f k a0 = some r) :
  Calls Tryz.prog 64 #[.string a0] w fun e w' => e = .returned (.bool r) ∧ Drawn0 w w' := by
 have H : (bulletinref15_named.l0 k a0 0) = some r := h; clear h; have H' := Aside0.mk H; clear H
 go_enter Tryz.func64, Tryz.ntmps64
 go_wp2
 go_loopg [3] k (fun kq v3 w' => ∃ (x3_1 : Int), v3 = .int .i64 x3_1 ∧ Aside0 (bulletinref15_named.l0 kq a0 x3_1 = some r) ∧ Aside0 (kq ≤ k) ∧ Drawn0 w w')
 case atStart => exact ⟨(0), cl, H', ⟨Nat.le_refl _⟩, d0⟩
 case round =>
  clear H'; obtain ⟨x3_1, rfl, HA, HK1, ⟨m1, rfl⟩⟩ := hrel; cases gk with
  | zero => exact absurd HA.out (by simp [bulletinref15_named.l0])
  | succ k1 =>
   have H := HA.out; clear HA; simp only [bulletinref15_named.l0] at H
   by_cases c2 : x3_1 < (a0.size : Int)
   ·rw [if_pos c2] at H; have c2b0 : decide (x3_1 < (a0.size : Int)) = true := decide_eq_true c2; clear c2
    by_cases c3 : 0 ≤ x3_1
    ·rw [if_pos c3] at H; have c3b0 : decide (0 ≤ x3_1) = true := decide_eq_true c3; clear c3
     by_cases c5 : (bt a0 x3_1) < 33
     ·rw [if_pos c5] at H; have c5b0 : decide ((bt a0 x3_1) < 33) = true := decide_eq_true c5; clear c5; obtain rfl := Option.some.inj H; have p4 : 0 ≤ (x3_1 : Int) := od; have q4 : x3_1 < (a0.size : Int) := od; have hx4 := bt_at a0 x3_1; replace p4 := eq_true p4; replace q4 := eq_true q4
      go_wp2
      go_ret
      exact ⟨cl, d0⟩
     ·rw [if_neg c5] at H; have c5b0 : decide ((bt a0 x3_1) < 33) = false := decide_eq_false c5; clear c5
      by_cases c7 : (bt a0 x3_1) > 126
      ·rw [if_pos c7] at H; have c7b0 : decide (126 < (bt a0 x3_1)) = true := decide_eq_true c7; clear c7; obtain rfl := Option.some.inj H; have p4 : 0 ≤ (x3_1 : Int) := od; have q4 : x3_1 < (a0.size : Int) := od; have hx4 := bt_at a0 x3_1; replace p4 := eq_true p4; replace q4 := eq_true q4; have p6 : 0 ≤ (x3_1 : Int) := od; have q6 : x3_1 < (a0.size : Int) := od; have hx6 := bt_at a0 x3_1; replace p6 := eq_true p6; replace q6 := eq_true q6
       go_wp2
       go_ret
       exact ⟨cl, d0⟩
      ·rw [if_neg c7] at H; have c7b0 : decide (126 < (bt a0 x3_1)) = false := decide_eq_false c7; clear c7
       by_cases c9 : (bt a0 x3_1) = 58
       ·rw [if_pos c9] at H; have c9b0 : ((bt a0 x3_1) == 58) = true := beq_iff_eq.mpr c9; have c9b1 : ((bt a0 x3_1) != 58) = false := bne_eq_false_iff_eq.mpr c9; clear c9; obtain rfl := Option.some.inj H; have p4 : 0 ≤ (x3_1 : Int) := od; have q4 : x3_1 < (a0.size : Int) := od; have hx4 := bt_at a0 x3_1; replace p4 := eq_true p4; replace q4 := eq_true q4; have p6 : 0 ≤ (x3_1 : Int) := od; have q6 : x3_1 < (a0.size : Int) := od; have hx6 := bt_at a0 x3_1; replace p6 := eq_true p6; replace q6 := eq_true q6; have p8 : 0 ≤ (x3_1 : Int) := od; have q8 : x3_1 < (a0.size : Int) := od; have hx8 := bt_at a0 x3_1; replace p8 := eq_true p8; replace q8 := eq_true q8
        go_wp2
        go_ret
        exact ⟨cl, d0⟩
       ·rw [if_neg c9] at H; have c9b0 : ((bt a0 x3_1) == 58) = false := beq_eq_false_iff_ne.mpr c9; have c9b1 : ((bt a0 x3_1) != 58) = true := bne_iff_ne.mpr c9; have H' := Aside0.mk H; clear H; have p4 : 0 ≤ (x3_1 : Int) := od; have q4 : x3_1 < (a0.size : Int) := od; have hx4 := bt_at a0 x3_1; replace p4 := eq_true p4; replace q4 := eq_true q4; have p6 : 0 ≤ (x3_1 : Int) := od; have q6 : x3_1 < (a0.size : Int) := od; have hx6 := bt_at a0 x3_1; replace p6 := eq_true p6; replace q6 := eq_true q6; have p8 : 0 ≤ (x3_1 : Int) := od; have q8 : x3_1 < (a0.size : Int) := od; have hx8 := bt_at a0 x3_1; replace p8 := eq_true p8; replace q8 := eq_true q8
        go_wp2
        go_roundg k1
        case measure => have := HK1.out; omega
        case rel => exact ⟨(wrap64 (x3_1 + 1)), cl, H', ⟨by have := HK1.out; omega⟩, d0⟩
    ·rw [if_neg c3] at H; exact absurd H (by simp)
   ·rw [if_neg c2] at H; have c2b0 : decide (x3_1 < (a0.size : Int)) = false := decide_eq_false c2; clear c2
    by_cases c10 : (a0.size : Int) ≥ 1
    ·rw [if_pos c10] at H; have c10b0 : decide (1 ≤ (a0.size : Int)) = true := decide_eq_true c10; have c10b1 : decide (1 ≤ a0.size) = true := decide_eq_true (by omega); clear c10; obtain rfl := Option.some.inj H
     go_wp2
     go_ret
     exact ⟨cl, d0⟩
    ·rw [if_neg c10] at H; have c10b0 : decide (1 ≤ (a0.size : Int)) = false := decide_eq_false c10; have c10b1 : decide (1 ≤ a0.size) = false := decide_eq_false (by omega); clear c10; obtain rfl := Option.some.inj H
     go_wp2
     go_ret
     exact ⟨cl, d0⟩

end Go.Proofs.YtbjbpgmjijeppaaGreatDoor.Fn
namespace Go.Proofs.YtbjbpgmjijeppaaGreatDoor.Fn
open Go.RowKit Go.Proofs.YtbjbpgmjijeppaaGreatDoorW.PrintWords Go.Proofs.YtbjbpgmjijeppaaGreatDoorW.PrintLast Go.Proofs.YtbjbpgmjijeppaaGreatDoorW.PrintMore
attribute [local go_sem] max2_int min2_int max_two min_two max_three min_three max_four min_four
set_option linter.unusedVariables false
set_option linter.unusedSimpArgs false

def bulletinref15_textual.l0 : Nat → ByteArray → Int → Option (Bool)
 | 0, _, _ => none
 | k + 1, x0, x3 => if x3 < (x0.size : Int) then (if 0 ≤ x3 then (if (bt x0 x3) = 9 then (bulletinref15_textual.l0 k x0 (wrap64 (x3 + 1))) else (if (bt x0 x3) < 32 then (some false) else (if (bt x0 x3) = 127 then (some false) else (bulletinref15_textual.l0 k x0 (wrap64 (x3 + 1)))))) else (none)) else (some true)
def bulletinref15_textual.f (k : Nat) (a0 : ByteArray) : Option (Bool) := bulletinref15_textual.l0 k a0 0
set_option maxHeartbeats 8000000 in
set_option maxRecDepth 100000 in
theorem bulletinref15_textual.calls (k : Nat) (a0 : ByteArray) (r : Bool) (w : World) (h : bulletinref15_textual.f k a0 = some r) :
  Calls Tryz.prog 62 #[.string a0] w fun e w' => e = .returned (.bool r) ∧ Drawn0 w w' := by
 have H : (bulletinref15_textual.l0 k a0 0) = some r := h; clear h; have H' := Aside0.mk H; clear H
 go_enter Tryz.func62, Tryz.ntmps62
 go_wp2
 go_loopg [3] k (fun kq v3 w' => ∃ (x3_1 : Int), v3 = .int .i64 x3_1 ∧ Aside0 (bulletinref15_textual.l0 kq a0 x3_1 = some r) ∧ Aside0 (kq ≤ k) ∧ Drawn0 w w')
 case atStart => exact ⟨(0), cl, H', ⟨Nat.le_refl _⟩, d0⟩
 case round =>
  clear H'; obtain ⟨x3_1, rfl, HA, HK1, ⟨m1, rfl⟩⟩ := hrel; cases gk with
  | zero => exact absurd HA.out (by simp [bulletinref15_textual.l0])
  | succ k1 =>
   have H := HA.out; clear HA; simp only [bulletinref15_textual.l0] at H
   by_cases c2 : x3_1 < (a0.size : Int)
   ·rw [if_pos c2] at H; have c2b0 : decide (x3_1 < (a0.size : Int)) = true := decide_eq_true c2; clear c2
    by_cases c3 : 0 ≤ x3_1
    ·rw [if_pos c3] at H; have c3b0 : decide (0 ≤ x3_1) = true := decide_eq_true c3; clear c3
     by_cases c5 : (bt a0 x3_1) = 9
     ·rw [if_pos c5] at H; have c5b0 : ((bt a0 x3_1) == 9) = true := beq_iff_eq.mpr c5; have c5b1 : ((bt a0 x3_1) != 9) = false := bne_eq_false_iff_eq.mpr c5; clear c5; have H' := Aside0.mk H; clear H; have p4 : 0 ≤ (x3_1 : Int) := od; have q4 : x3_1 < (a0.size : Int) := od; have hx4 := bt_at a0 x3_1; replace p4 := eq_true p4; replace q4 := eq_true q4
      go_wp2
      go_roundg k1
      case measure => have := HK1.out; omega
      case rel => exact ⟨(wrap64 (x3_1 + 1)), cl, H', ⟨by have := HK1.out; omega⟩, d0⟩
     ·rw [if_neg c5] at H; have c5b0 : ((bt a0 x3_1) == 9) = false := beq_eq_false_iff_ne.mpr c5; have c5b1 : ((bt a0 x3_1) != 9) = true := bne_iff_ne.mpr c5
      by_cases c7 : (bt a0 x3_1) < 32
      ·rw [if_pos c7] at H; have c7b0 : decide ((bt a0 x3_1) < 32) = true := decide_eq_true c7; clear c7; obtain rfl := Option.some.inj H; have p4 : 0 ≤ (x3_1 : Int) := od; have q4 : x3_1 < (a0.size : Int) := od; have hx4 := bt_at a0 x3_1; replace p4 := eq_true p4; replace q4 := eq_true q4; have p6 : 0 ≤ (x3_1 : Int) := od; have q6 : x3_1 < (a0.size : Int) := od; have hx6 := bt_at a0 x3_1; replace p6 := eq_true p6; replace q6 := eq_true q6
       go_wp2
       go_ret
       exact ⟨cl, d0⟩
      ·rw [if_neg c7] at H; have c7b0 : decide ((bt a0 x3_1) < 32) = false := decide_eq_false c7; clear c7
       by_cases c9 : (bt a0 x3_1) = 127
       ·rw [if_pos c9] at H; have c9b0 : ((bt a0 x3_1) == 127) = true := beq_iff_eq.mpr c9; have c9b1 : ((bt a0 x3_1) != 127) = false := bne_eq_false_iff_eq.mpr c9; clear c9; obtain rfl := Option.some.inj H; have p4 : 0 ≤ (x3_1 : Int) := od; have q4 : x3_1 < (a0.size : Int) := od; have hx4 := bt_at a0 x3_1; replace p4 := eq_true p4; replace q4 := eq_true q4; have p6 : 0 ≤ (x3_1 : Int) := od; have q6 : x3_1 < (a0.size : Int) := od; have hx6 := bt_at a0 x3_1; replace p6 := eq_true p6; replace q6 := eq_true q6; have p8 : 0 ≤ (x3_1 : Int) := od; have q8 : x3_1 < (a0.size : Int) := od; have hx8 := bt_at a0 x3_1; replace p8 := eq_true p8; replace q8 := eq_true q8
        go_wp2
        go_ret
        exact ⟨cl, d0⟩
       ·rw [if_neg c9] at H; have c9b0 : ((bt a0 x3_1) == 127) = false := beq_eq_false_iff_ne.mpr c9; have c9b1 : ((bt a0 x3_1) != 127) = true := bne_iff_ne.mpr c9; have H' := Aside0.mk H; clear H; have p4 : 0 ≤ (x3_1 : Int) := od; have q4 : x3_1 < (a0.size : Int) := od; have hx4 := bt_at a0 x3_1; replace p4 := eq_true p4; replace q4 := eq_true q4; have p6 : 0 ≤ (x3_1 : Int) := od; have q6 : x3_1 < (a0.size : Int) := od; have hx6 := bt_at a0 x3_1; replace p6 := eq_true p6; replace q6 := eq_true q6; have p8 : 0 ≤ (x3_1 : Int) := od; have q8 : x3_1 < (a0.size : Int) := od; have hx8 := bt_at a0 x3_1; replace p8 := eq_true p8; replace q8 := eq_true q8
        go_wp2
        go_roundg k1
        case measure => have := HK1.out; omega
        case rel => exact ⟨(wrap64 (x3_1 + 1)), cl, H', ⟨by have := HK1.out; omega⟩, d0⟩
    ·rw [if_neg c3] at H; exact absurd H (by simp)
   ·rw [if_neg c2] at H; have c2b0 : decide (x3_1 < (a0.size : Int)) = false := decide_eq_false c2; clear c2; obtain rfl := Option.some.inj H
    go_wp2
    go_ret
    exact ⟨cl, d0⟩

end Go.Proofs.YtbjbpgmjijeppaaGreatDoor.Fn
namespace Go.Proofs.YtbjbpgmjijeppaaGreatDoor.Fn
open Go.RowKit Go.Proofs.YtbjbpgmjijeppaaGreatDoorW.PrintWords Go.Proofs.YtbjbpgmjijeppaaGreatDoorW.PrintLast Go.Proofs.YtbjbpgmjijeppaaGreatDoorW.PrintMore
attribute [local go_sem] max2_int min2_int max_two min_two max_three min_three max_four min_four
set_option linter.unusedVariables false
set_option linter.unusedSimpArgs false

mutual
def bulletinref15_Parse.l0 : Nat → ByteArray → List (S67) → ByteArray → Int → Option ((List (S67)) × ByteArray × Int)
 | 0, _, _, _, _ => none
 | k + 1, x0, x5, x6, x7 => if x7 < (x0.size : Int) then (if 0 ≤ x7 then (if x7 ≤ (x0.size : Int) then ((bulletinref15_line.f k (x0.extract (x7 : Int).toNat x0.size)).bind fun t307 => (if t307 < 0 then (some (([] : List (S67)), (⟨#[]⟩ : ByteArray), 9)) else (if x7 ≤ (wrap64 (x7 + t307)) then (if (wrap64 (x7 + t307)) ≤ (x0.size : Int) then (if t307 = 0 then (if 0 ≤ (wrap64 ((wrap64 (x7 + t307)) + 2)) then (if (wrap64 ((wrap64 (x7 + t307)) + 2)) ≤ (x0.size : Int) then (bulletinref15_Parse.l0 k x0 x5 (x0.extract ((wrap64 ((wrap64 (x7 + t307)) + 2)) : Int).toNat x0.size) (x0.size : Int)) else (none)) else (none)) else (if t307 > 998 then (some (([] : List (S67)), (⟨#[]⟩ : ByteArray), 2)) else ((bulletinref15_textual.f k (x0.extract (x7 : Int).toNat ((wrap64 (x7 + t307)) : Int).toNat)).bind fun t308 => (if t308 = true then (if 0 < ((x0.extract (x7 : Int).toNat ((wrap64 (x7 + t307)) : Int).toNat).size : Int) then ((bulletinref15_blank.f (bt (x0.extract (x7 : Int).toNat ((wrap64 (x7 + t307)) : Int).toNat) 0)).bind fun t309 => (if t309 = true then (if (x5.length : Int) = 0 then (some (([] : List (S67)), (⟨#[]⟩ : ByteArray), 150)) else (if 0 ≤ (wrap64 ((x5.length : Int) - 1)) then (if (wrap64 ((x5.length : Int) - 1)) < (x5.length : Int) then (if ((rd_T67 x5 (wrap64 ((x5.length : Int) - 1))).f1).size + (x0.extract (x7 : Int).toNat ((wrap64 (x7 + t307)) : Int).toNat).size ≤ 9223372036854775807 then (bulletinref15_Parse.l0 k x0 (x5.set ((wrap64 ((x5.length : Int) - 1)) : Int).toNat (⟨(rd_T67 x5 (wrap64 ((x5.length : Int) - 1))).f0, ((rd_T67 x5 (wrap64 ((x5.length : Int) - 1))).f1) ++ (x0.extract (x7 : Int).toNat ((wrap64 (x7 + t307)) : Int).toNat)⟩ : S67)) x6 (wrap64 ((wrap64 (x7 + t307)) + 2))) else (none)) else (none)) else (none))) else (bulletinref15_Parse.l1 k x0 x5 x6 (wrap64 ((wrap64 (x7 + t307)) + 2)) (x0.extract (x7 : Int).toNat ((wrap64 (x7 + t307)) : Int).toNat) 0))) else (none)) else (some (([] : List (S67)), (⟨#[]⟩ : ByteArray), 150)))))) else (none)) else (none)))) else (none)) else (none)) else (bulletinref15_Parse.l2 k x5 x6 0)
def bulletinref15_Parse.j2 : Nat → ByteArray → List (S67) → ByteArray → Int → ByteArray → Int → Option ((List (S67)) × ByteArray × Int)
 | 0, _, _, _, _, _, _ => none
 | k + 1, x0, x5, x6, x7, x9, x10 => if x10 = (x9.size : Int) then (bulletinref15_Parse.j3 k x0 x5 x6 x7 x9 x10 true) else (if 0 ≤ x10 then (if x10 ≤ (x9.size : Int) then ((bulletinref15_named.f k (x9.extract 0 (x10 : Int).toNat)).bind fun t312 => (bulletinref15_Parse.j3 k x0 x5 x6 x7 x9 x10 (!t312))) else (none)) else (none))
def bulletinref15_Parse.j3 : Nat → ByteArray → List (S67) → ByteArray → Int → ByteArray → Int → Bool → Option ((List (S67)) × ByteArray × Int)
 | 0, _, _, _, _, _, _, _ => none
 | k + 1, x0, x5, x6, x7, x9, x10, x87 => if x87 = true then (some (([] : List (S67)), (⟨#[]⟩ : ByteArray), 150)) else (if (x5.length : Int) = 100 then (some (([] : List (S67)), (⟨#[]⟩ : ByteArray), 8)) else (if 0 ≤ x10 then (if x10 ≤ (x9.size : Int) then (if 0 ≤ (wrap64 (x10 + 1)) then (if (wrap64 (x10 + 1)) ≤ (x9.size : Int) then (if x5.length < 4398046511104 then (bulletinref15_Parse.l0 k x0 (x5 ++ [(⟨x9.extract 0 (x10 : Int).toNat, x9.extract ((wrap64 (x10 + 1)) : Int).toNat x9.size⟩ : S67)]) x6 x7) else (none)) else (none)) else (none)) else (none)) else (none)))
def bulletinref15_Parse.l1 : Nat → ByteArray → List (S67) → ByteArray → Int → ByteArray → Int → Option ((List (S67)) × ByteArray × Int)
 | 0, _, _, _, _, _, _ => none
 | k + 1, x0, x5, x6, x7, x9, x10 => if x10 < (x9.size : Int) then (if 0 ≤ x10 then (if (bt x9 x10) = 58 then (bulletinref15_Parse.j2 k x0 x5 x6 x7 x9 x10) else (bulletinref15_Parse.l1 k x0 x5 x6 x7 x9 (wrap64 (x10 + 1)))) else (none)) else (bulletinref15_Parse.j2 k x0 x5 x6 x7 x9 x10)
def bulletinref15_Parse.l2 : Nat → List (S67) → ByteArray → Int → Option ((List (S67)) × ByteArray × Int)
 | 0, _, _, _ => none
 | k + 1, x5, x6, x11 => if x11 < (x5.length : Int) then (if 0 ≤ x11 then ((bulletinref15_Trim.f k ((rd_T67 x5 x11).f1)).bind fun t317 => (bulletinref15_Parse.l2 k (x5.set (x11 : Int).toNat (⟨(rd_T67 x5 x11).f0, t317⟩ : S67)) x6 (wrap64 (x11 + 1)))) else (none)) else (some (x5, x6, 0))
end
def bulletinref15_Parse.f (k : Nat) (a0 : ByteArray) : Option ((List (S67)) × ByteArray × Int) := bulletinref15_Parse.l0 k a0 ([] : List (S67)) (⟨#[]⟩ : ByteArray) 0
def bulletinref15_Parse.T28 : Bool × List (List Nat × List Nat) := (true, [([], []), ([], []), ([], []), ([1, 2], [1, 2]), ([], []), ([], []), ([5], [5]), ([4, 6], [4, 6]), ([3, 7], [3, 7]), ([8], [8]), ([0, 9], [0, 9]), ([10, 10, 0, 1, 2, 3, 4, 5, 6, 7, 8, 9, 10], [0, 10])])
def bulletinref15_Parse.B28 : List Nat := [0, 0, 0, 6, 0, 0, 32, 112, 254, 510, 1023, 2047]
theorem bulletinref15_Parse.tab28 : rtab .any (opsOf Tryz.f37 28) = bulletinref15_Parse.T28 := by kernel_rfl
theorem bulletinref15_Parse.bits28 : waitsOk bulletinref15_Parse.T28.2 bulletinref15_Parse.B28 = true := by kernel_rfl
set_option maxHeartbeats 8000000 in
set_option maxRecDepth 100000 in
theorem bulletinref15_Parse.calls (k : Nat) (a0 : ByteArray) (r1 : List (S67)) (r2 : ByteArray) (r3 : Int) (w : World) (h : bulletinref15_Parse.f k a0 = some (r1, r2, r3)) :
  Calls Tryz.prog 37 #[.string a0] w fun e w' => ∃ v0_ : Value, e = .returned (.tuple #[v0_, .string r2, .int .i64 r3]) ∧ Kd.R k67 67 w' w.heap.size (fun _ => True) v0_ r1 ∧ Below w.heap.size w w' := by
 have hu67 := Tryz.underlying67; have HB := Aside0.mk (Below.refl w.heap.size w); have H : (bulletinref15_Parse.l0 k a0 ([] : List (S67)) (⟨#[]⟩ : ByteArray) 0) = some (r1, r2, r3) := h; clear h; have H' := Aside0.mk H; clear H
 go_enter Tryz.func37, Tryz.ntmps37
 go_wp2
 go_loopg [5, 6, 7] k (fun kq v5 v6 v7 w' => ∃ (x5_1 : List (S67)) (x6_1 : ByteArray) (x7_1 : Int), v6 = .string x6_1 ∧ v7 = .int .i64 x7_1 ∧ Aside0 (bulletinref15_Parse.l0 kq a0 x5_1 x6_1 x7_1 = some (r1, r2, r3)) ∧ Aside0 (kq ≤ k) ∧ Aside0 (Kd.R k67 67 w' w.heap.size (fun _ => True) v5 x5_1) ∧ Aside0 (Below w.heap.size w w'))
 case atStart => exact ⟨(([] : List (S67))), ((⟨#[]⟩ : ByteArray)), (0), cl, cl, H', ⟨Nat.le_refl _⟩, ⟨by first | exact Kd.R_nil _ _ _ _ _ | exact Kd.N_nil _ _ _ _ _ | exact Kd.V_nil _ _ _ _ _ | exact Kd.Q_nil _ _ _ _ _ | exact Kd.S_nil _ _ _ _ _⟩, ⟨bw⟩⟩
 case round =>
  clear H'; obtain ⟨x5_1, x6_1, x7_1, rfl, rfl, HA, HK1, HO_5, HB⟩ := hrel; cases gk with
  | zero => exact absurd HA.out (by simp [bulletinref15_Parse.l0])
  | succ k1 =>
   have H := HA.out; clear HA; simp only [bulletinref15_Parse.l0] at H
   by_cases c2 : x7_1 < (a0.size : Int)
   ·rw [if_pos c2] at H; have c2b0 : decide (x7_1 < (a0.size : Int)) = true := decide_eq_true c2; clear c2
    by_cases c3 : 0 ≤ x7_1
    ·rw [if_pos c3] at H; have c3b0 := eq_true c3; have c3b1 : decide (0 ≤ x7_1) = true := decide_eq_true c3; clear c3
     by_cases c4 : x7_1 ≤ (a0.size : Int)
     ·rw [if_pos c4] at H; have c4b0 := eq_true c4; have c4b1 : decide (x7_1 ≤ (a0.size : Int)) = true := decide_eq_true c4; clear c4; replace H := Option.bind_eq_some_iff.mp H; obtain ⟨t307, A50, H⟩ := H; replace H : (if t307 < 0 then (some (([] : List (S67)), (⟨#[]⟩ : ByteArray), 9)) else (if x7_1 ≤ (wrap64 (x7_1 + t307)) then (if (wrap64 (x7_1 + t307)) ≤ (a0.size : Int) then (if t307 = 0 then (if 0 ≤ (wrap64 ((wrap64 (x7_1 + t307)) + 2)) then (if (wrap64 ((wrap64 (x7_1 + t307)) + 2)) ≤ (a0.size : Int) then (bulletinref15_Parse.l0 k1 a0 x5_1 (a0.extract ((wrap64 ((wrap64 (x7_1 + t307)) + 2)) : Int).toNat a0.size) (a0.size : Int)) else (none)) else (none)) else (if t307 > 998 then (some (([] : List (S67)), (⟨#[]⟩ : ByteArray), 2)) else ((bulletinref15_textual.f k1 (a0.extract (x7_1 : Int).toNat ((wrap64 (x7_1 + t307)) : Int).toNat)).bind fun t308 => (if t308 = true then (if 0 < ((a0.extract (x7_1 : Int).toNat ((wrap64 (x7_1 + t307)) : Int).toNat).size : Int) then ((bulletinref15_blank.f (bt (a0.extract (x7_1 : Int).toNat ((wrap64 (x7_1 + t307)) : Int).toNat) 0)).bind fun t309 => (if t309 = true then (if (x5_1.length : Int) = 0 then (some (([] : List (S67)), (⟨#[]⟩ : ByteArray), 150)) else (if 0 ≤ (wrap64 ((x5_1.length : Int) - 1)) then (if (wrap64 ((x5_1.length : Int) - 1)) < (x5_1.length : Int) then (if ((rd_T67 x5_1 (wrap64 ((x5_1.length : Int) - 1))).f1).size + (a0.extract (x7_1 : Int).toNat ((wrap64 (x7_1 + t307)) : Int).toNat).size ≤ 9223372036854775807 then (bulletinref15_Parse.l0 k1 a0 (x5_1.set ((wrap64 ((x5_1.length : Int) - 1)) : Int).toNat (⟨(rd_T67 x5_1 (wrap64 ((x5_1.length : Int) - 1))).f0, ((rd_T67 x5_1 (wrap64 ((x5_1.length : Int) - 1))).f1) ++ (a0.extract (x7_1 : Int).toNat ((wrap64 (x7_1 + t307)) : Int).toNat)⟩ : S67)) x6_1 (wrap64 ((wrap64 (x7_1 + t307)) + 2))) else (none)) else (none)) else (none))) else (bulletinref15_Parse.l1 k1 a0 x5_1 x6_1 (wrap64 ((wrap64 (x7_1 + t307)) + 2)) (a0.extract (x7_1 : Int).toNat ((wrap64 (x7_1 + t307)) : Int).toNat) 0))) else (none)) else (some (([] : List (S67)), (⟨#[]⟩ : ByteArray), 150)))))) else (none)) else (none))) = some (r1, r2, r3) := H; have A5 := Aside0.mk A50; clear A50
      by_cases c6 : t307 < 0
      ·rw [if_pos c6] at H; have c6b0 : decide (t307 < 0) = true := decide_eq_true c6; clear c6; simp only [Option.some.injEq, Prod.mk.injEq] at H; obtain ⟨rfl, rfl, rfl⟩ := H
       go_wp2_with (first | ((with_reducible refine gate_callee (f := 61) rfl ?_); refine goesL_ (some 19) rfl rfl Tryz.func61 (by kernel_rfl) rfl #[.string (a0.extract (x7_1 : Int).toNat a0.size)] rfl am ?_; (with_reducible refine (bulletinref15_line.calls k1 (a0.extract (x7_1 : Int).toNat a0.size) t307 _ A5.out).mono ?_); rintro e w' ⟨rfl, ⟨nd, rfl⟩⟩; refine ⟨_, rfl, ?_⟩))
       go_ret3
       exact ⟨_, ew, by first | exact Kd.R_nil _ _ _ _ _ | exact Kd.N_nil _ _ _ _ _ | exact Kd.V_nil _ _ _ _ _ | exact Kd.Q_nil _ _ _ _ _ | exact Kd.S_nil _ _ _ _ _, bw⟩
      ·rw [if_neg c6] at H; have c6b0 : decide (t307 < 0) = false := decide_eq_false c6; clear c6; have c7b0 := eq_true (od : 0 ≤ x7_1)
       by_cases c8 : x7_1 ≤ (wrap64 (x7_1 + t307))
       ·rw [if_pos c8] at H; have c8b0 := eq_true c8; have c8b1 : decide (x7_1 ≤ (wrap64 (x7_1 + t307))) = true := decide_eq_true c8
        by_cases c9 : (wrap64 (x7_1 + t307)) ≤ (a0.size : Int)
        ·rw [if_pos c9] at H; have c9b0 := eq_true c9; have c9b1 : decide ((wrap64 (x7_1 + t307)) ≤ (a0.size : Int)) = true := decide_eq_true c9
         by_cases c10 : t307 = 0
         ·rw [if_pos c10] at H; have c10b0 : (t307 == 0) = true := beq_iff_eq.mpr c10; have c10b1 : (t307 != 0) = false := bne_eq_false_iff_eq.mpr c10; clear c10; obtain ⟨ji11, hji11⟩ : ∃ j_ : Int, (wrap64 ((wrap64 (x7_1 + t307)) + 2)) = j_ := ⟨_, rfl⟩
          replace H : (if 0 ≤ (ji11) then (if (ji11) ≤ (a0.size : Int) then (bulletinref15_Parse.l0 k1 a0 x5_1 (a0.extract ((ji11) : Int).toNat a0.size) (a0.size : Int)) else (none)) else (none)) = some (r1, r2, r3) := by first | (rw [hji11] at H; exact H) | (simp only [hji11] at H ⊢; exact H)
          (try rw [hji11] at A5)
          have hji11w : (IntKind.i64.wrap ((wrap64 (x7_1 + t307)) + 2)) = ji11 := (i64_w _).trans hji11
          by_cases c12 : 0 ≤ (ji11)
          ·rw [if_pos c12] at H; have c12b0 := eq_true c12; have c12b1 : decide (0 ≤ (ji11)) = true := decide_eq_true c12; clear c12
           by_cases c13 : (ji11) ≤ (a0.size : Int)
           ·rw [if_pos c13] at H; have c13b0 := eq_true c13; have c13b1 : decide ((ji11) ≤ (a0.size : Int)) = true := decide_eq_true c13; clear c13; have H' := Aside0.mk H; clear H
            go_wp2_with (first | ((with_reducible refine gate_callee (f := 61) rfl ?_); refine goesL_ (some 19) rfl rfl Tryz.func61 (by kernel_rfl) rfl #[.string (a0.extract (x7_1 : Int).toNat a0.size)] rfl am ?_; (with_reducible refine (bulletinref15_line.calls k1 (a0.extract (x7_1 : Int).toNat a0.size) t307 _ A5.out).mono ?_); rintro e w' ⟨rfl, ⟨nd, rfl⟩⟩; refine ⟨_, rfl, ?_⟩))
            go_roundg k1
            case measure => have := HK1.out; omega
            case rel => exact ⟨(x5_1), (a0.extract ((ji11) : Int).toNat a0.size), ((a0.size : Int)), (by first | rfl | (simp; done) | (simp only [← hji11] <;> (first | rfl | simp)) | (simp [*]; done) | (simp [nil_ne]; done)), cl, H', ⟨by have := HK1.out; omega⟩, ⟨by (with_reducible repeat (first | apply Kd.R_alloc | apply Kd.R_drewN | apply Kd.R_drew)); exact HO_5.out⟩, ⟨bw⟩⟩
           ·rw [if_neg c13] at H; exact absurd H (by simp)
          ·rw [if_neg c12] at H; exact absurd H (by simp)
         ·rw [if_neg c10] at H; have c10b0 : (t307 == 0) = false := beq_eq_false_iff_ne.mpr c10; have c10b1 : (t307 != 0) = true := bne_iff_ne.mpr c10
          by_cases c14 : t307 > 998
          ·rw [if_pos c14] at H; have c14b0 : decide (998 < t307) = true := decide_eq_true c14; clear c14; simp only [Option.some.injEq, Prod.mk.injEq] at H; obtain ⟨rfl, rfl, rfl⟩ := H
           go_wp2_with (first | ((with_reducible refine gate_callee (f := 61) rfl ?_); refine goesL_ (some 19) rfl rfl Tryz.func61 (by kernel_rfl) rfl #[.string (a0.extract (x7_1 : Int).toNat a0.size)] rfl am ?_; (with_reducible refine (bulletinref15_line.calls k1 (a0.extract (x7_1 : Int).toNat a0.size) t307 _ A5.out).mono ?_); rintro e w' ⟨rfl, ⟨nd, rfl⟩⟩; refine ⟨_, rfl, ?_⟩))
           go_ret3
           exact ⟨_, ew, by first | exact Kd.R_nil _ _ _ _ _ | exact Kd.N_nil _ _ _ _ _ | exact Kd.V_nil _ _ _ _ _ | exact Kd.Q_nil _ _ _ _ _ | exact Kd.S_nil _ _ _ _ _, bw⟩
          ·rw [if_neg c14] at H; have c14b0 : decide (998 < t307) = false := decide_eq_false c14; clear c14; obtain ⟨ex1_, hex1_⟩ : ∃ e_ : ByteArray, (a0.extract (x7_1 : Int).toNat ((wrap64 (x7_1 + t307)) : Int).toNat) = e_ := ⟨_, rfl⟩
           (try rw [hex1_] at H)
           replace H := Option.bind_eq_some_iff.mp H; obtain ⟨t308, A150, H⟩ := H; replace H : (if t308 = true then (if 0 < (ex1_.size : Int) then ((bulletinref15_blank.f (bt ex1_ 0)).bind fun t309 => (if t309 = true then (if (x5_1.length : Int) = 0 then (some (([] : List (S67)), (⟨#[]⟩ : ByteArray), 150)) else (if 0 ≤ (wrap64 ((x5_1.length : Int) - 1)) then (if (wrap64 ((x5_1.length : Int) - 1)) < (x5_1.length : Int) then (if ((rd_T67 x5_1 (wrap64 ((x5_1.length : Int) - 1))).f1).size + ex1_.size ≤ 9223372036854775807 then (bulletinref15_Parse.l0 k1 a0 (x5_1.set ((wrap64 ((x5_1.length : Int) - 1)) : Int).toNat (⟨(rd_T67 x5_1 (wrap64 ((x5_1.length : Int) - 1))).f0, ((rd_T67 x5_1 (wrap64 ((x5_1.length : Int) - 1))).f1) ++ ex1_⟩ : S67)) x6_1 (wrap64 ((wrap64 (x7_1 + t307)) + 2))) else (none)) else (none)) else (none))) else (bulletinref15_Parse.l1 k1 a0 x5_1 x6_1 (wrap64 ((wrap64 (x7_1 + t307)) + 2)) ex1_ 0))) else (none)) else (some (([] : List (S67)), (⟨#[]⟩ : ByteArray), 150))) = some (r1, r2, r3) := H; have A15 := Aside0.mk A150; clear A150
           by_cases c16 : t308 = true
           ·subst c16; have H1 : (if 0 < (ex1_.size : Int) then ((bulletinref15_blank.f (bt ex1_ 0)).bind fun t309 => (if t309 = true then (if (x5_1.length : Int) = 0 then (some (([] : List (S67)), (⟨#[]⟩ : ByteArray), 150)) else (if 0 ≤ (wrap64 ((x5_1.length : Int) - 1)) then (if (wrap64 ((x5_1.length : Int) - 1)) < (x5_1.length : Int) then (if ((rd_T67 x5_1 (wrap64 ((x5_1.length : Int) - 1))).f1).size + ex1_.size ≤ 9223372036854775807 then (bulletinref15_Parse.l0 k1 a0 (x5_1.set ((wrap64 ((x5_1.length : Int) - 1)) : Int).toNat (⟨(rd_T67 x5_1 (wrap64 ((x5_1.length : Int) - 1))).f0, ((rd_T67 x5_1 (wrap64 ((x5_1.length : Int) - 1))).f1) ++ ex1_⟩ : S67)) x6_1 (wrap64 ((wrap64 (x7_1 + t307)) + 2))) else (none)) else (none)) else (none))) else (bulletinref15_Parse.l1 k1 a0 x5_1 x6_1 (wrap64 ((wrap64 (x7_1 + t307)) + 2)) ex1_ 0))) else (none)) = some (r1, r2, r3) := by rw [if_pos rfl] at H; exact H
            clear H; have H := H1; clear H1
            by_cases c17 : 0 < (ex1_.size : Int)
            ·rw [if_pos c17] at H; have c17b0 : decide (0 < (ex1_.size : Int)) = true := decide_eq_true c17; have c17b1 : decide (0 < ex1_.size) = true := decide_eq_true (by omega); clear c17; replace H := Option.bind_eq_some_iff.mp H; obtain ⟨t309, A190, H⟩ := H; replace H : (if t309 = true then (if (x5_1.length : Int) = 0 then (some (([] : List (S67)), (⟨#[]⟩ : ByteArray), 150)) else (if 0 ≤ (wrap64 ((x5_1.length : Int) - 1)) then (if (wrap64 ((x5_1.length : Int) - 1)) < (x5_1.length : Int) then (if ((rd_T67 x5_1 (wrap64 ((x5_1.length : Int) - 1))).f1).size + ex1_.size ≤ 9223372036854775807 then (bulletinref15_Parse.l0 k1 a0 (x5_1.set ((wrap64 ((x5_1.length : Int) - 1)) : Int).toNat (⟨(rd_T67 x5_1 (wrap64 ((x5_1.length : Int) - 1))).f0, ((rd_T67 x5_1 (wrap64 ((x5_1.length : Int) - 1))).f1) ++ ex1_⟩ : S67)) x6_1 (wrap64 ((wrap64 (x7_1 + t307)) + 2))) else (none)) else (none)) else (none))) else (bulletinref15_Parse.l1 k1 a0 x5_1 x6_1 (wrap64 ((wrap64 (x7_1 + t307)) + 2)) ex1_ 0)) = some (r1, r2, r3) := H; have A19 := Aside0.mk A190; clear A190
             by_cases c20 : t309 = true
             ·subst c20; have H1 : (if (x5_1.length : Int) = 0 then (some (([] : List (S67)), (⟨#[]⟩ : ByteArray), 150)) else (if 0 ≤ (wrap64 ((x5_1.length : Int) - 1)) then (if (wrap64 ((x5_1.length : Int) - 1)) < (x5_1.length : Int) then (if ((rd_T67 x5_1 (wrap64 ((x5_1.length : Int) - 1))).f1).size + ex1_.size ≤ 9223372036854775807 then (bulletinref15_Parse.l0 k1 a0 (x5_1.set ((wrap64 ((x5_1.length : Int) - 1)) : Int).toNat (⟨(rd_T67 x5_1 (wrap64 ((x5_1.length : Int) - 1))).f0, ((rd_T67 x5_1 (wrap64 ((x5_1.length : Int) - 1))).f1) ++ ex1_⟩ : S67)) x6_1 (wrap64 ((wrap64 (x7_1 + t307)) + 2))) else (none)) else (none)) else (none))) = some (r1, r2, r3) := by rw [if_pos rfl] at H; exact H
              clear H; have H := H1; clear H1
              by_cases c21 : (x5_1.length : Int) = 0
              ·rw [if_pos c21] at H; have c21b0 : ((x5_1.length : Int) == 0) = true := beq_iff_eq.mpr c21; have c21b1 : ((x5_1.length : Int) != 0) = false := bne_eq_false_iff_eq.mpr c21; clear c21; simp only [Option.some.injEq, Prod.mk.injEq] at H; obtain ⟨rfl, rfl, rfl⟩ := H
               go_wp2_with (first | ((with_reducible refine gate_callee (f := 61) rfl ?_); refine goesL_ (some 19) rfl rfl Tryz.func61 (by kernel_rfl) rfl #[.string (a0.extract (x7_1 : Int).toNat a0.size)] rfl am ?_; (with_reducible refine (bulletinref15_line.calls k1 (a0.extract (x7_1 : Int).toNat a0.size) t307 _ A5.out).mono ?_); rintro e w' ⟨rfl, ⟨nd, rfl⟩⟩; refine ⟨_, rfl, ?_⟩) | ((with_reducible refine gate_callee (f := 62) rfl ?_); refine goesL_ (some 42) rfl rfl Tryz.func62 (by kernel_rfl) rfl #[.string ex1_] rfl am ?_; (with_reducible refine (bulletinref15_textual.calls k1 ex1_ true _ A15.out).mono ?_); rintro e w' ⟨rfl, ⟨nd, rfl⟩⟩; refine ⟨_, rfl, ?_⟩; have p18 : 0 ≤ (0 : Int) := (by omega); have q18 : 0 < ex1_.size := (by have : (0 : Int) < (ex1_.size : Int) := od; omega); have hx18 : ∀ h : 0 < ex1_.size, ((ex1_[0]'h).toNat : Int) = bt ex1_ 0 := bt_at ex1_ 0; clear p18; have qi18 : (0 < (ex1_.size : Int)) = True := eq_true (od); replace q18 := eq_true q18) | ((with_reducible refine gate_callee (f := 63) rfl ?_); refine goesL_ (some 46) rfl rfl Tryz.func63 (by kernel_rfl) rfl #[.int .u8 (bt ex1_ 0)] rfl am ?_; (with_reducible refine (bulletinref15_blank.calls (bt ex1_ 0) true _ A19.out).mono ?_); rintro e w' ⟨rfl, ⟨nd, rfl⟩⟩; refine ⟨_, rfl, ?_⟩; obtain ⟨Ao22, co22, eo22⟩ := Kd.R_slice HO_5.out; subst eo22))
               go_ret3
               exact ⟨_, ew, by first | exact Kd.R_nil _ _ _ _ _ | exact Kd.N_nil _ _ _ _ _ | exact Kd.V_nil _ _ _ _ _ | exact Kd.Q_nil _ _ _ _ _ | exact Kd.S_nil _ _ _ _ _, bw⟩
              ·rw [if_neg c21] at H; have c21b0 : ((x5_1.length : Int) == 0) = false := beq_eq_false_iff_ne.mpr c21; have c21b1 : ((x5_1.length : Int) != 0) = true := bne_iff_ne.mpr c21; have c21b2 : ¬ (x5_1 = []) := fun h_ => c21 (by rw [h_]; rfl)
               obtain ⟨ji23, hji23⟩ : ∃ j_ : Int, (wrap64 ((x5_1.length : Int) - 1)) = j_ := ⟨_, rfl⟩
               replace H : (if 0 ≤ (ji23) then (if (ji23) < (x5_1.length : Int) then (if ((rd_T67 x5_1 (ji23)).f1).size + ex1_.size ≤ 9223372036854775807 then (bulletinref15_Parse.l0 k1 a0 (x5_1.set ((ji23) : Int).toNat (⟨(rd_T67 x5_1 (ji23)).f0, ((rd_T67 x5_1 (ji23)).f1) ++ ex1_⟩ : S67)) x6_1 (wrap64 ((wrap64 (x7_1 + t307)) + 2))) else (none)) else (none)) else (none)) = some (r1, r2, r3) := by first | (rw [hji23] at H; exact H) | (simp only [hji23] at H ⊢; exact H)
               (try rw [hji23] at A5)
               (try rw [hji23] at A15)
               (try rw [hji23] at A19)
               have hji23w : (IntKind.i64.wrap ((x5_1.length : Int) - 1)) = ji23 := (i64_w _).trans hji23
               by_cases c24 : 0 ≤ (ji23)
               ·rw [if_pos c24] at H; have c24b0 : decide (0 ≤ (ji23)) = true := decide_eq_true c24; clear c24
                by_cases c25 : (ji23) < (x5_1.length : Int)
                ·rw [if_pos c25] at H; have c25b0 : decide ((ji23) < (x5_1.length : Int)) = true := decide_eq_true c25; clear c25
                 by_cases c26 : ((rd_T67 x5_1 (ji23)).f1).size + ex1_.size ≤ 9223372036854775807
                 ·rw [if_pos c26] at H; have c26b0 := eq_true c26; have c26b1 : decide (((rd_T67 x5_1 (ji23)).f1).size + ex1_.size ≤ 9223372036854775807) = true := decide_eq_true c26
                  try have c26b2 : (9223372036854775807 < ((rd_T67 x5_1 (ji23)).f1).size + ex1_.size) = False := eq_false (Nat.not_lt.2 c26)
                  obtain ⟨y311, hy311⟩ : ∃ y_ : List (S67), y_ = (x5_1.set ((ji23) : Int).toNat (⟨(rd_T67 x5_1 (ji23)).f0, ((rd_T67 x5_1 (ji23)).f1) ++ ex1_⟩ : S67)) := ⟨_, rfl⟩
                  replace H : (bulletinref15_Parse.l0 k1 a0 y311 x6_1 (wrap64 ((wrap64 (x7_1 + t307)) + 2))) = some (r1, r2, r3) := by first | (rw [hy311]; with_reducible exact H) | (have H2_ := (Option.bind_some _ _).symm.trans H; rw [hy311]; with_reducible exact H2_) | (have H2_ := (Option.bind_some _ _).symm.trans H; with_reducible exact H2_) | with_reducible exact H | (rw [hy311]; exact H) | exact H
                  have Ny311 := Aside0.mk hy311; clear hy311; have H' := Aside0.mk H; clear H
                  go_wp2_with (first | ((with_reducible refine gate_callee (f := 61) rfl ?_); refine goesL_ (some 19) rfl rfl Tryz.func61 (by kernel_rfl) rfl #[.string (a0.extract (x7_1 : Int).toNat a0.size)] rfl am ?_; (with_reducible refine (bulletinref15_line.calls k1 (a0.extract (x7_1 : Int).toNat a0.size) t307 _ A5.out).mono ?_); rintro e w' ⟨rfl, ⟨nd, rfl⟩⟩; refine ⟨_, rfl, ?_⟩; (try (rw [drewN_self wr]; generalize hq_ : World.drewN wr _ = wr; have n0_ : Aside0 (Kd.R k67 67 wr w.heap.size (fun _ => True) u5 x5_1) := ⟨by rw [← hq_]; exact (ra HO_5.out)⟩; have n1_ : Aside0 (Below w.heap.size w wr) := ⟨by rw [← hq_]; exact bw⟩; clear HO_5 HB hq_; have HO_5 := n0_; have HB := n1_; clear n0_ n1_))) | ((with_reducible refine gate_callee (f := 62) rfl ?_); refine goesL_ (some 42) rfl rfl Tryz.func62 (by kernel_rfl) rfl #[.string ex1_] rfl am ?_; (with_reducible refine (bulletinref15_textual.calls k1 ex1_ true _ A15.out).mono ?_); rintro e w' ⟨rfl, ⟨nd, rfl⟩⟩; refine ⟨_, rfl, ?_⟩; (try (rw [drewN_self wr]; generalize hq_ : World.drewN wr _ = wr; have n0_ : Aside0 (Kd.R k67 67 wr w.heap.size (fun _ => True) u5 x5_1) := ⟨by rw [← hq_]; exact (ra HO_5.out)⟩; have n1_ : Aside0 (Below w.heap.size w wr) := ⟨by rw [← hq_]; exact bw⟩; clear HO_5 HB hq_; have HO_5 := n0_; have HB := n1_; clear n0_ n1_)); have p18 : 0 ≤ (0 : Int) := (by omega); have q18 : 0 < ex1_.size := (by have : (0 : Int) < (ex1_.size : Int) := od; omega); have hx18 : ∀ h : 0 < ex1_.size, ((ex1_[0]'h).toNat : Int) = bt ex1_ 0 := bt_at ex1_ 0; clear p18; have qi18 : (0 < (ex1_.size : Int)) = True := eq_true (od); replace q18 := eq_true q18) | ((with_reducible refine gate_callee (f := 63) rfl ?_); refine goesL_ (some 46) rfl rfl Tryz.func63 (by kernel_rfl) rfl #[.int .u8 (bt ex1_ 0)] rfl am ?_; (with_reducible refine (bulletinref15_blank.calls (bt ex1_ 0) true _ A19.out).mono ?_); rintro e w' ⟨rfl, ⟨nd, rfl⟩⟩; refine ⟨_, rfl, ?_⟩; (try (rw [drewN_self wr]; generalize hq_ : World.drewN wr _ = wr; have n0_ : Aside0 (Kd.R k67 67 wr w.heap.size (fun _ => True) u5 x5_1) := ⟨by rw [← hq_]; exact (ra HO_5.out)⟩; have n1_ : Aside0 (Below w.heap.size w wr) := ⟨by rw [← hq_]; exact bw⟩; clear HO_5 HB hq_; have HO_5 := n0_; have HB := n1_; clear n0_ n1_)); obtain ⟨Ao28, co28, eo28⟩ := Kd.R_slice HO_5.out; subst eo28; have p310 : 0 ≤ ((ji23) : Int) := od; have q310 : (ji23) < (x5_1.length : Int) := od; obtain ⟨ad310, e310, hx310_0, hx310_1⟩ := at_T67 (Kd.R_reads' HO_5.out).2.2 (ji23) p310 q310; cases e310; replace p310 := eq_true p310; replace q310 := eq_true q310; have p27 : 0 ≤ ((ji23) : Int) := od; have q27 : ((ji23) : Int) < ((x5_1.length : Int) : Int) := od; obtain ⟨go27, co27, eo27, gb27, gl27, cl27, HG27⟩ := Kd.R_form HO_5.out (by omega); (first | cases eo27 | (injection eo27 with ea_ en_ ec_; (first | subst ea_ | (injection ea_ with ea_; subst ea_)); subst ec_; clear en_)); have GB27 := Aside0.mk gb27; have GG27 := Aside0.mk HG27; clear gb27 gl27 HG27; (first | simp only [add_plain] at hx310_0 | skip); (first | simp only [add_plain] at hx310_1 | skip); obtain ⟨ce27, hcl27, hM27, hcc27, hfr27⟩ := Kd.R_elem HO_5.out z67 ((ji23) : Int) p27 q27; obtain rfl := k67_openM hM27; have hx27_0 : wr.cell? ⟨go27, ((ji23) : Int).toNat * 2, none⟩ = some (.string ((rd_T67 x5_1 (ji23)).f0)) := hcc27 0 _ rfl; have hx27_1 : wr.cell? ⟨go27, ((ji23) : Int).toNat * 2 + 1, none⟩ = some (.string ((rd_T67 x5_1 (ji23)).f1)) := hcc27 1 _ rfl; have hf27_0 : wr.frozen? ⟨go27, ((ji23) : Int).toNat * 2, none⟩ = false := hfr27 0; have hf27_1 : wr.frozen? ⟨go27, ((ji23) : Int).toNat * 2 + 1, none⟩ = false := hfr27 1; clear hcl27 hcc27 hfr27 hM27; replace p27 := eq_true p27; replace q27 := eq_true q27; have HX29 := Aside0.mk (show Kd.R k67 67 wr w.heap.size (fun _ => True) (.slice (some ⟨go27, 0, none⟩) x5_1.length co28) x5_1 from (ra HO_5.out)); obtain ⟨ce29, hcl29, hM29, hcc29, hfr29⟩ := Kd.R_elem HX29.out z67 ((ji23) : Int) (od) (by have h_ : ((ji23) : Int) < ((x5_1.length : Int) : Int) := od; first | exact h_ | (have e_ := (Kd.R_reads' HO_5.out).1; omega) | simpa using h_); obtain rfl := k67_openM hM29; have HP29 := Kd.R_seg HX29.out ((ji23) : Int) (od) (by have h_ : ((ji23) : Int) < ((x5_1.length : Int) : Int) := od; first | exact h_ | (have e_ := (Kd.R_reads' HO_5.out).1; omega) | simpa using h_) (seg := [.string (((rd_T67 x5_1 (ji23)).f1) ++ ex1_)]) (j := 1) hcl29 hcc29 (show 2 ≤ 2 from by decide) (x' := (⟨(rd_T67 x5_1 (ji23)).f0, ((rd_T67 x5_1 (ji23)).f1) ++ ex1_⟩ : S67)) (k67_mkM _ _ _ (⟨(rd_T67 x5_1 (ji23)).f0, ((rd_T67 x5_1 (ji23)).f1) ++ ex1_⟩ : S67) ) (fun _ hk => hk); have hx29_1 := hcc29 1 _ rfl; (try simp only [show (k67).sz = 2 from rfl, Nat.mul_one, Nat.add_zero] at hx29_1); have hf29_1 := hfr29 1; (try simp only [show (k67).sz = 2 from rfl, Nat.mul_one, Nat.add_zero] at hf29_1); clear hcl29 hcc29 hfr29 hM29) | ((with_reducible refine gate_store (t := 9) (p := 64) rfl ?_); refine store_event (t := 9) (p := 64) (v := ?vo_w30) (w1 := (wr.setCell ⟨go27, ((ji23) : Int).toNat * 2 + 1, none⟩ (.string (((rd_T67 x5_1 (ji23)).f1) ++ ex1_)))) ?hg ?ho ?hn ?hr ?_; (case ho => rfl); (case hg => rfl); (case hn => rfl); (case hr => first | (go_simp; done) | (go_simp; rfl)); intro w30 hw; have hg : wr.grownBy w30 (some go27) := (by rw [hw]; exact HP29.2); have hp_ : Kd.R k67 67 w30 w.heap.size (fun _ => True) (.slice (some ⟨go27, 0, none⟩) x5_1.length co28) y311 := (by rw [hw, Ny311.out]; exact HP29.1); clear HP29; have n0_ := Aside0.mk (hp_); have n1_ := Aside0.mk ((by rw [hw]; exact below_set (HB.out) GB27.out : Below w.heap.size w w30)); clear HO_5; clear HB; have HO_5 := n0_; have HB := n1_; clear n0_ n1_; clear hg hw hp_))
                  go_roundg k1
                  case measure => have := HK1.out; omega
                  case rel => exact ⟨(y311), (x6_1), (wrap64 ((wrap64 (x7_1 + t307)) + 2)), cl, cl, H', ⟨by have := HK1.out; omega⟩, ⟨by (with_reducible repeat (first | apply Kd.R_alloc | apply Kd.R_drewN | apply Kd.R_drew)); exact HO_5.out⟩, ⟨bw⟩⟩
                 ·rw [if_neg c26] at H; exact absurd H (by simp)
                ·rw [if_neg c25] at H; exact absurd H (by simp)
               ·rw [if_neg c24] at H; exact absurd H (by simp)
             ·replace c20 := Bool.eq_false_iff.mpr c20; subst c20; have H1 : (bulletinref15_Parse.l1 k1 a0 x5_1 x6_1 (wrap64 ((wrap64 (x7_1 + t307)) + 2)) ex1_ 0) = some (r1, r2, r3) := by rw [if_neg (show ¬ (false = true) by decide)] at H; exact H
              clear H; have H := H1; clear H1; have HC31 := Aside0.mk H; clear H
              go_upto_block 2 with (first | ((with_reducible refine gate_callee (f := 61) rfl ?_); refine goesL_ (some 19) rfl rfl Tryz.func61 (by kernel_rfl) rfl #[.string (a0.extract (x7_1 : Int).toNat a0.size)] rfl am ?_; (with_reducible refine (bulletinref15_line.calls k1 (a0.extract (x7_1 : Int).toNat a0.size) t307 _ A5.out).mono ?_); rintro e w' ⟨rfl, ⟨nd, rfl⟩⟩; refine ⟨_, rfl, ?_⟩) | ((with_reducible refine gate_callee (f := 62) rfl ?_); refine goesL_ (some 42) rfl rfl Tryz.func62 (by kernel_rfl) rfl #[.string ex1_] rfl am ?_; (with_reducible refine (bulletinref15_textual.calls k1 ex1_ true _ A15.out).mono ?_); rintro e w' ⟨rfl, ⟨nd, rfl⟩⟩; refine ⟨_, rfl, ?_⟩; have p18 : 0 ≤ (0 : Int) := (by omega); have q18 : 0 < ex1_.size := (by have : (0 : Int) < (ex1_.size : Int) := od; omega); have hx18 : ∀ h : 0 < ex1_.size, ((ex1_[0]'h).toNat : Int) = bt ex1_ 0 := bt_at ex1_ 0; clear p18; have qi18 : (0 < (ex1_.size : Int)) = True := eq_true (od); replace q18 := eq_true q18) | ((with_reducible refine gate_callee (f := 63) rfl ?_); refine goesL_ (some 46) rfl rfl Tryz.func63 (by kernel_rfl) rfl #[.int .u8 (bt ex1_ 0)] rfl am ?_; (with_reducible refine (bulletinref15_blank.calls (bt ex1_ 0) false _ A19.out).mono ?_); rintro e w' ⟨rfl, ⟨nd, rfl⟩⟩; refine ⟨_, rfl, ?_⟩))
              (try simp only [Act.put, List.setIfInBounds_toArray, List.set_cons_zero, List.set_cons_succ])
              go_cut [10] (fun v10 wc => ∃ (kq : Nat) (x10_30 : Int), v10 = .int .i64 x10_30 ∧ Aside0 (bulletinref15_Parse.j2 kq a0 x5_1 x6_1 (wrap64 ((wrap64 (x7_1 + t307)) + 2)) ex1_ x10_30 = some (r1, r2, r3)) ∧ Aside0 (kq ≤ k1) ∧ Aside0 (Kd.R k67 67 wc w.heap.size (fun _ => True) u5 x5_1) ∧ Aside0 (Below w.heap.size w wc))
              case first =>
               have H := HC31.out; clear HC31; have H' := Aside0.mk H; clear H
               go_wp2
               go_loopg [10] k1 (fun kq v10 w' => ∃ (x10_2 : Int), v10 = .int .i64 x10_2 ∧ Aside0 (bulletinref15_Parse.l1 kq a0 x5_1 x6_1 (wrap64 ((wrap64 (x7_1 + t307)) + 2)) ex1_ x10_2 = some (r1, r2, r3)) ∧ Aside0 (kq ≤ k1) ∧ Aside0 (Kd.R k67 67 w' w.heap.size (fun _ => True) u5 x5_1) ∧ Aside0 (Below w.heap.size w w'))
               case atStart => exact ⟨(0), cl, H', ⟨Nat.le_refl _⟩, ⟨by (with_reducible repeat (first | apply Kd.R_alloc | apply Kd.R_drewN | apply Kd.R_drew)); exact HO_5.out⟩, ⟨bw⟩⟩
               case round =>
                clear H'
                try clear c1
                try clear p1
                try clear q1
                try clear hx1
                try clear qi1
                try clear c2
                try clear c2b0
                try clear p2
                try clear q2
                try clear hx2
                try clear hf2
                try clear c3
                try clear c3b0
                try clear c3b1
                try clear p3
                try clear q3
                try clear hx3
                try clear c4
                try clear c4b0
                try clear c4b1
                try clear c6
                try clear c6b0
                try clear p6
                try clear c7
                try clear c7b0
                try clear c8
                try clear c8b0
                try clear c8b1
                try clear c9
                try clear c9b0
                try clear c9b1
                try clear c10
                try clear c10b0
                try clear c10b1
                try clear c12
                try clear c12b0
                try clear c12b1
                try clear c13
                try clear c13b0
                try clear c13b1
                try clear c14
                try clear c14b0
                try clear c16
                try clear c17
                try clear c17b0
                try clear c17b1
                try clear p18
                try clear q18
                try clear hx18
                try clear qi18
                try clear c20
                try clear c21
                try clear c21b0
                try clear c21b1
                try clear c21b2
                try clear c24
                try clear c24b0
                try clear c25
                try clear c25b0
                try clear c26
                try clear c26b0
                try clear c26b1
                try clear c26b2
                try clear c27
                try clear p27
                try clear q27
                try clear hx27
                try clear hf27
                try clear c29
                try clear hx29
                try clear hf29
                try clear p31
                try clear q31
                try clear hx31
                try clear hx27_0
                try clear hx27_1
                try clear hx29_1
                try clear hx310_0
                try clear hx310_1
                try clear p18
                try clear p27
                try clear p310
                try clear q18
                try clear q27
                try clear q310
                obtain ⟨x10_2, rfl, HA, HK2, HO_5, HB⟩ := hrel; cases gk with
                | zero => exact absurd HA.out (by simp [bulletinref15_Parse.l1])
                | succ k2 =>
                 have H := HA.out; clear HA; simp only [bulletinref15_Parse.l1] at H
                 by_cases c32 : x10_2 < (ex1_.size : Int)
                 ·rw [if_pos c32] at H; have c32b0 : decide (x10_2 < (ex1_.size : Int)) = true := decide_eq_true c32; clear c32
                  (first | rw [c32b0] | (simp only [i64_w, i32_w]; rw [c32b0]) | skip)
                  by_cases c33 : 0 ≤ x10_2
                  ·rw [if_pos c33] at H; have c33b0 : decide (0 ≤ x10_2) = true := decide_eq_true c33; clear c33
                   by_cases c35 : (bt ex1_ x10_2) = 58
                   ·rw [if_pos c35] at H; have c35b0 : ((bt ex1_ x10_2) == 58) = true := beq_iff_eq.mpr c35; have c35b1 : ((bt ex1_ x10_2) != 58) = false := bne_eq_false_iff_eq.mpr c35; clear c35; have H' := Aside0.mk H; clear H; have p34 : 0 ≤ (x10_2 : Int) := od; have q34 : x10_2 < (ex1_.size : Int) := od; have hx34 := bt_at ex1_ x10_2; replace p34 := eq_true p34; replace q34 := eq_true q34
                    go_wp2
                    go_meet
                    case rel => exact ⟨_, (x10_2), cl, H', ⟨by have := HK1.out; have := HK2.out; first | omega | exact Nat.le_refl _⟩, ⟨by (with_reducible repeat (first | apply Kd.R_alloc | apply Kd.R_drewN | apply Kd.R_drew)); exact HO_5.out⟩, ⟨bw⟩⟩
                   ·rw [if_neg c35] at H; have c35b0 : ((bt ex1_ x10_2) == 58) = false := beq_eq_false_iff_ne.mpr c35; have c35b1 : ((bt ex1_ x10_2) != 58) = true := bne_iff_ne.mpr c35; have H' := Aside0.mk H; clear H; have p34 : 0 ≤ (x10_2 : Int) := od; have q34 : x10_2 < (ex1_.size : Int) := od; have hx34 := bt_at ex1_ x10_2; replace p34 := eq_true p34; replace q34 := eq_true q34
                    go_wp2
                    go_roundg k2
                    case measure => have := HK1.out; have := HK2.out; omega
                    case rel => exact ⟨(wrap64 (x10_2 + 1)), cl, H', ⟨by have := HK1.out; have := HK2.out; omega⟩, ⟨by (with_reducible repeat (first | apply Kd.R_alloc | apply Kd.R_drewN | apply Kd.R_drew)); exact HO_5.out⟩, ⟨bw⟩⟩
                  ·rw [if_neg c33] at H; exact absurd H (by simp)
                 ·rw [if_neg c32] at H; have c32b0 : decide (x10_2 < (ex1_.size : Int)) = false := decide_eq_false c32; clear c32
                  (first | rw [c32b0] | (simp only [i64_w, i32_w]; rw [c32b0]) | skip)
                  have H' := Aside0.mk H; clear H
                  go_wp2
                  go_meet
                  case rel => exact ⟨_, (x10_2), cl, H', ⟨by have := HK1.out; have := HK2.out; first | omega | exact Nat.le_refl _⟩, ⟨by (with_reducible repeat (first | apply Kd.R_alloc | apply Kd.R_drewN | apply Kd.R_drew)); exact HO_5.out⟩, ⟨bw⟩⟩
              case rest =>
               clear HC31
               try clear c1
               try clear p1
               try clear q1
               try clear hx1
               try clear qi1
               try clear c2
               try clear c2b0
               try clear p2
               try clear q2
               try clear hx2
               try clear hf2
               try clear c3
               try clear c3b0
               try clear c3b1
               try clear p3
               try clear q3
               try clear hx3
               try clear c4
               try clear c4b0
               try clear c4b1
               try clear c6
               try clear c6b0
               try clear p6
               try clear c7
               try clear c7b0
               try clear c8
               try clear c8b0
               try clear c8b1
               try clear c9
               try clear c9b0
               try clear c9b1
               try clear c10
               try clear c10b0
               try clear c10b1
               try clear c12
               try clear c12b0
               try clear c12b1
               try clear c13
               try clear c13b0
               try clear c13b1
               try clear c14
               try clear c14b0
               try clear c16
               try clear c17
               try clear c17b0
               try clear c17b1
               try clear p18
               try clear q18
               try clear hx18
               try clear qi18
               try clear c20
               try clear c21
               try clear c21b0
               try clear c21b1
               try clear c21b2
               try clear c24
               try clear c24b0
               try clear c25
               try clear c25b0
               try clear c26
               try clear c26b0
               try clear c26b1
               try clear c26b2
               try clear c27
               try clear p27
               try clear q27
               try clear hx27
               try clear hf27
               try clear c29
               try clear hx29
               try clear hf29
               try clear p31
               try clear q31
               try clear hx31
               try clear c32
               try clear c32b0
               try clear c33
               try clear c33b0
               try clear p34
               try clear q34
               try clear hx34
               try clear c35
               try clear c35b0
               try clear c35b1
               try clear hx27_0
               try clear hx27_1
               try clear hx29_1
               try clear hx310_0
               try clear hx310_1
               try clear p1
               try clear p18
               try clear p2
               try clear p27
               try clear p3
               try clear p31
               try clear p310
               try clear p34
               try clear p6
               try clear q1
               try clear q18
               try clear q2
               try clear q27
               try clear q3
               try clear q31
               try clear q310
               try clear q34
               obtain ⟨kq, x10_30, rfl, HA, HJ30, HO_5, HB⟩ := hcut; cases kq with
               | zero => exact absurd HA.out (by simp [bulletinref15_Parse.j2])
               | succ kj30 =>
                have H := HA.out; clear HA; simp only [bulletinref15_Parse.j2] at H; have HC36 := Aside0.mk H; clear H
                go_upto_region 24 with (fail)
                go_cut [87] (fun v87 wc => ∃ (kq : Nat) (x87_35 : Bool), v87 = .bool x87_35 ∧ Aside0 (bulletinref15_Parse.j3 kq a0 x5_1 x6_1 (wrap64 ((wrap64 (x7_1 + t307)) + 2)) ex1_ x10_30 x87_35 = some (r1, r2, r3)) ∧ Aside0 (kq ≤ kj30) ∧ Aside0 (Kd.R k67 67 wc w.heap.size (fun _ => True) u5 x5_1) ∧ Aside0 (Below w.heap.size w wc))
                case first =>
                 have H := HC36.out; clear HC36
                 by_cases c37 : x10_30 = (ex1_.size : Int)
                 ·rw [if_pos c37] at H; have c37b0 : (x10_30 == (ex1_.size : Int)) = true := beq_iff_eq.mpr c37; have c37b1 : (x10_30 != (ex1_.size : Int)) = false := bne_eq_false_iff_eq.mpr c37; clear c37
                  (first | rw [c37b0] | (simp only [i64_w, i32_w]; rw [c37b0]) | skip)
                  have H' := Aside0.mk H; clear H
                  go_wp2
                  go_meet
                  case rel => exact ⟨_, (true), cl, H', ⟨by have := HK1.out; have := HJ30.out; first | omega | exact Nat.le_refl _⟩, ⟨by (with_reducible repeat (first | apply Kd.R_alloc | apply Kd.R_drewN | apply Kd.R_drew)); exact HO_5.out⟩, ⟨bw⟩⟩
                 ·rw [if_neg c37] at H; have c37b0 : (x10_30 == (ex1_.size : Int)) = false := beq_eq_false_iff_ne.mpr c37; have c37b1 : (x10_30 != (ex1_.size : Int)) = true := bne_iff_ne.mpr c37
                  (first | rw [c37b0] | (simp only [i64_w, i32_w]; rw [c37b0]) | skip)
                  by_cases c38 : 0 ≤ x10_30
                  ·rw [if_pos c38] at H; have c38b0 := eq_true c38; have c38b1 : decide (0 ≤ x10_30) = true := decide_eq_true c38; clear c38
                   by_cases c39 : x10_30 ≤ (ex1_.size : Int)
                   ·rw [if_pos c39] at H; have c39b0 := eq_true c39; have c39b1 : decide (x10_30 ≤ (ex1_.size : Int)) = true := decide_eq_true c39; replace H := Option.bind_eq_some_iff.mp H; obtain ⟨t312, A400, H⟩ := H; replace H : (bulletinref15_Parse.j3 kj30 a0 x5_1 x6_1 (wrap64 ((wrap64 (x7_1 + t307)) + 2)) ex1_ x10_30 (!t312)) = some (r1, r2, r3) := H; have A40 := Aside0.mk A400; clear A400; have H' := Aside0.mk H; clear H
                    go_wp2_with (first | (go_at_call 64; (with_reducible refine (bulletinref15_named.calls kj30 (ex1_.extract 0 (x10_30 : Int).toNat) t312 _ A40.out).mono ?_); rintro e w' ⟨rfl, ⟨nd, rfl⟩⟩))
                    go_meet
                    case rel => exact ⟨_, (!t312), cl, H', ⟨by have := HK1.out; have := HJ30.out; first | omega | exact Nat.le_refl _⟩, ⟨by (with_reducible repeat (first | apply Kd.R_alloc | apply Kd.R_drewN | apply Kd.R_drew)); exact HO_5.out⟩, ⟨bw⟩⟩
                   ·rw [if_neg c39] at H; exact absurd H (by simp)
                  ·rw [if_neg c38] at H; exact absurd H (by simp)
                case rest =>
                 clear HC36
                 try clear c1
                 try clear p1
                 try clear q1
                 try clear hx1
                 try clear qi1
                 try clear c2
                 try clear c2b0
                 try clear p2
                 try clear q2
                 try clear hx2
                 try clear hf2
                 try clear c3
                 try clear c3b0
                 try clear c3b1
                 try clear p3
                 try clear q3
                 try clear hx3
                 try clear c4
                 try clear c4b0
                 try clear c4b1
                 try clear c6
                 try clear c6b0
                 try clear p6
                 try clear c7
                 try clear c7b0
                 try clear c8
                 try clear c8b0
                 try clear c8b1
                 try clear c9
                 try clear c9b0
                 try clear c9b1
                 try clear c10
                 try clear c10b0
                 try clear c10b1
                 try clear c12
                 try clear c12b0
                 try clear c12b1
                 try clear c13
                 try clear c13b0
                 try clear c13b1
                 try clear c14
                 try clear c14b0
                 try clear c16
                 try clear c17
                 try clear c17b0
                 try clear c17b1
                 try clear p18
                 try clear q18
                 try clear hx18
                 try clear qi18
                 try clear c20
                 try clear c21
                 try clear c21b0
                 try clear c21b1
                 try clear c21b2
                 try clear c24
                 try clear c24b0
                 try clear c25
                 try clear c25b0
                 try clear c26
                 try clear c26b0
                 try clear c26b1
                 try clear c26b2
                 try clear c27
                 try clear p27
                 try clear q27
                 try clear hx27
                 try clear hf27
                 try clear c29
                 try clear hx29
                 try clear hf29
                 try clear p31
                 try clear q31
                 try clear hx31
                 try clear c32
                 try clear c32b0
                 try clear c33
                 try clear c33b0
                 try clear p34
                 try clear q34
                 try clear hx34
                 try clear c35
                 try clear c35b0
                 try clear c35b1
                 try clear c37
                 try clear c37b0
                 try clear c37b1
                 try clear c38
                 try clear c38b0
                 try clear c38b1
                 try clear c39
                 try clear c39b0
                 try clear c39b1
                 try clear hx27_0
                 try clear hx27_1
                 try clear hx29_1
                 try clear hx310_0
                 try clear hx310_1
                 try clear p1
                 try clear p18
                 try clear p2
                 try clear p27
                 try clear p3
                 try clear p31
                 try clear p310
                 try clear p34
                 try clear p6
                 try clear q1
                 try clear q18
                 try clear q2
                 try clear q27
                 try clear q3
                 try clear q31
                 try clear q310
                 try clear q34
                 obtain ⟨kq, x87_35, rfl, HA, HJ35, HO_5, HB⟩ := hcut; cases kq with
                 | zero => exact absurd HA.out (by simp [bulletinref15_Parse.j3])
                 | succ kj35 =>
                  have H := HA.out; clear HA; simp only [bulletinref15_Parse.j3] at H
                  by_cases c41 : x87_35 = true
                  ·subst c41; have H1 : (some (([] : List (S67)), (⟨#[]⟩ : ByteArray), 150)) = some (r1, r2, r3) := by rw [if_pos rfl] at H; exact H
                   clear H; have H := H1; clear H1; simp only [Option.some.injEq, Prod.mk.injEq] at H; obtain ⟨rfl, rfl, rfl⟩ := H
                   go_wp2
                   go_ret3
                   exact ⟨_, ew, by first | exact Kd.R_nil _ _ _ _ _ | exact Kd.N_nil _ _ _ _ _ | exact Kd.V_nil _ _ _ _ _ | exact Kd.Q_nil _ _ _ _ _ | exact Kd.S_nil _ _ _ _ _, bw⟩
                  ·replace c41 := Bool.eq_false_iff.mpr c41; subst c41; have H1 : (if (x5_1.length : Int) = 100 then (some (([] : List (S67)), (⟨#[]⟩ : ByteArray), 8)) else (if 0 ≤ x10_30 then (if x10_30 ≤ (ex1_.size : Int) then (if 0 ≤ (wrap64 (x10_30 + 1)) then (if (wrap64 (x10_30 + 1)) ≤ (ex1_.size : Int) then (if x5_1.length < 4398046511104 then (bulletinref15_Parse.l0 kj35 a0 (x5_1 ++ [(⟨ex1_.extract 0 (x10_30 : Int).toNat, ex1_.extract ((wrap64 (x10_30 + 1)) : Int).toNat ex1_.size⟩ : S67)]) x6_1 (wrap64 ((wrap64 (x7_1 + t307)) + 2))) else (none)) else (none)) else (none)) else (none)) else (none))) = some (r1, r2, r3) := by rw [if_neg (show ¬ (false = true) by decide)] at H; exact H
                   clear H; have H := H1; clear H1
                   by_cases c42 : (x5_1.length : Int) = 100
                   ·rw [if_pos c42] at H; have c42b0 : ((x5_1.length : Int) == 100) = true := beq_iff_eq.mpr c42; have c42b1 : ((x5_1.length : Int) != 100) = false := bne_eq_false_iff_eq.mpr c42; clear c42; simp only [Option.some.injEq, Prod.mk.injEq] at H; obtain ⟨rfl, rfl, rfl⟩ := H; obtain ⟨Ao43, co43, eo43⟩ := Kd.R_slice HO_5.out; subst eo43
                    go_wp2
                    go_ret3
                    exact ⟨_, ew, by first | exact Kd.R_nil _ _ _ _ _ | exact Kd.N_nil _ _ _ _ _ | exact Kd.V_nil _ _ _ _ _ | exact Kd.Q_nil _ _ _ _ _ | exact Kd.S_nil _ _ _ _ _, bw⟩
                   ·rw [if_neg c42] at H; have c42b0 : ((x5_1.length : Int) == 100) = false := beq_eq_false_iff_ne.mpr c42; have c42b1 : ((x5_1.length : Int) != 100) = true := bne_iff_ne.mpr c42
                    by_cases c44 : 0 ≤ x10_30
                    ·rw [if_pos c44] at H; have c44b0 := eq_true c44; have c44b1 : decide (0 ≤ x10_30) = true := decide_eq_true c44; clear c44
                     by_cases c45 : x10_30 ≤ (ex1_.size : Int)
                     ·rw [if_pos c45] at H; have c45b0 := eq_true c45; have c45b1 : decide (x10_30 ≤ (ex1_.size : Int)) = true := decide_eq_true c45; obtain ⟨ji46, hji46⟩ : ∃ j_ : Int, (wrap64 (x10_30 + 1)) = j_ := ⟨_, rfl⟩
                      replace H : (if 0 ≤ (ji46) then (if (ji46) ≤ (ex1_.size : Int) then (if x5_1.length < 4398046511104 then (bulletinref15_Parse.l0 kj35 a0 (x5_1 ++ [(⟨ex1_.extract 0 (x10_30 : Int).toNat, ex1_.extract ((ji46) : Int).toNat ex1_.size⟩ : S67)]) x6_1 (wrap64 ((wrap64 (x7_1 + t307)) + 2))) else (none)) else (none)) else (none)) = some (r1, r2, r3) := by first | (rw [hji46] at H; exact H) | (simp only [hji46] at H ⊢; exact H)
                      have hji46w : (IntKind.i64.wrap (x10_30 + 1)) = ji46 := (i64_w _).trans hji46
                      by_cases c47 : 0 ≤ (ji46)
                      ·rw [if_pos c47] at H; have c47b0 := eq_true c47; have c47b1 : decide (0 ≤ (ji46)) = true := decide_eq_true c47; clear c47
                       by_cases c48 : (ji46) ≤ (ex1_.size : Int)
                       ·rw [if_pos c48] at H; have c48b0 := eq_true c48; have c48b1 : decide ((ji46) ≤ (ex1_.size : Int)) = true := decide_eq_true c48
                        by_cases c49 : x5_1.length < 4398046511104
                        ·rw [if_pos c49] at H; have LMc49 := Aside0.mk c49; clear c49; obtain ⟨y313, hy313⟩ : ∃ y_ : List (S67), y_ = (x5_1 ++ [(⟨ex1_.extract 0 (x10_30 : Int).toNat, ex1_.extract ((ji46) : Int).toNat ex1_.size⟩ : S67)]) := ⟨_, rfl⟩
                         replace H : (bulletinref15_Parse.l0 kj35 a0 y313 x6_1 (wrap64 ((wrap64 (x7_1 + t307)) + 2))) = some (r1, r2, r3) := by first | (rw [hy313]; with_reducible exact H) | (have H2_ := (Option.bind_some _ _).symm.trans H; rw [hy313]; with_reducible exact H2_) | (have H2_ := (Option.bind_some _ _).symm.trans H; with_reducible exact H2_) | with_reducible exact H | (rw [hy313]; exact H) | exact H
                         have Ny313 := Aside0.mk hy313; clear hy313; have H' := Aside0.mk H; clear H; obtain ⟨Ao50, co50, eo50⟩ := Kd.R_slice HO_5.out; subst eo50
                         try go_wp2
                         have n0_ := Aside0.mk (Kd.R_drew HO_5.out); have n1_ := Aside0.mk (below_drew1 HB.out); clear HO_5 HB; have HO_5 := n0_; have HB := n1_; clear n0_ n1_; refine start_ (n := 12) (S := fun w' => True) (ds := []) #[false, false, false, false, false, false, false, false, false, false, false, false] (by kernel_rfl) rfl rfl trivial (fun hHeld => ?_); refine with_tabW bulletinref15_Parse.tab28 bulletinref15_Parse.bits28 (fun HT_ HW_ => ?_)
                         generalize wc.drew = w51 at HO_5 HB hHeld ⊢
                         refine pure_ (i := 0) (N := some 91) (v := ?_) (a' := ?_) (bitsL 12 1) rfl rfl (any_of HT_.out (by kernel_rfl)) (fun _ _ _ h => h) (Or.inl ⟨by rfl, ?_⟩) ?_ ?_; rotate_left
                         ·intro w'; go_simp; with_reducible rfl
                         rotate_left
                         ·simp only [Act.put, List.setIfInBounds_toArray, List.set_cons_zero, List.set_cons_succ, i64_w, i32_w]; rfl
                         refine pure_ (i := 1) (N := some 92) (v := ?_) (a' := ?_) (bitsL 12 3) rfl rfl (any_of HT_.out (by kernel_rfl)) (fun _ _ _ h => h) (Or.inl ⟨by rfl, ?_⟩) ?_ ?_; rotate_left
                         ·intro w'; go_simp; with_reducible rfl
                         rotate_left
                         ·simp only [Act.put, List.setIfInBounds_toArray, List.set_cons_zero, List.set_cons_succ, i64_w, i32_w]; rfl
                         refine pure_ (i := 2) (N := some 93) (v := ?_) (a' := ?_) (bitsL 12 7) rfl rfl (any_of HT_.out (by kernel_rfl)) (fun _ _ _ h => h) (Or.inl ⟨by rfl, ?_⟩) ?_ ?_; rotate_left
                         ·intro w'; go_simp; with_reducible rfl
                         rotate_left
                         ·simp only [Act.put, List.setIfInBounds_toArray, List.set_cons_zero, List.set_cons_succ, i64_w, i32_w]; rfl
                         refine pure_ (i := 3) (N := some 94) (v := ?_) (a' := ?_) (bitsL 12 15) rfl rfl (any_of HT_.out (by kernel_rfl)) (fun _ _ _ h => h) (Or.inl ⟨by rfl, ?_⟩) ?_ ?_; rotate_left
                         ·intro w'; go_simp; with_reducible rfl
                         rotate_left
                         ·simp only [Act.put, List.setIfInBounds_toArray, List.set_cons_zero, List.set_cons_succ, i64_w, i32_w]; rfl
                         refine pure_ (i := 4) (N := some 95) (v := ?_) (a' := ?_) (bitsL 12 31) rfl rfl (any_of HT_.out (by kernel_rfl)) (fun _ _ _ h => h) (Or.inl ⟨by rfl, ?_⟩) ?_ ?_; rotate_left
                         ·intro w'; go_simp; with_reducible rfl
                         rotate_left
                         ·simp only [Act.put, List.setIfInBounds_toArray, List.set_cons_zero, List.set_cons_succ, i64_w, i32_w]; rfl
                         refine pure_ (i := 5) (N := some 96) (v := ?_) (a' := ?_) (bitsL 12 63) rfl rfl (any_of HT_.out (by kernel_rfl)) (fun _ _ _ h => h) (Or.inl ⟨by rfl, ?_⟩) ?_ ?_; rotate_left
                         ·intro w'; go_simp; with_reducible rfl
                         rotate_left
                         ·simp only [Act.put, List.setIfInBounds_toArray, List.set_cons_zero, List.set_cons_succ, i64_w, i32_w]; rfl
                         refine pure_ (i := 6) (N := some 97) (v := ?_) (a' := ?_) (bitsL 12 127) rfl rfl (any_of HT_.out (by kernel_rfl)) (fun _ _ _ h => h) (Or.inl ⟨by rfl, ?_⟩) ?_ ?_; rotate_left
                         ·intro w'; go_simp; with_reducible rfl
                         rotate_left
                         ·simp only [Act.put, List.setIfInBounds_toArray, List.set_cons_zero, List.set_cons_succ, i64_w, i32_w]; rfl
                         refine pure_ (i := 7) (N := some 98) (v := ?_) (a' := ?_) (bitsL 12 255) rfl rfl (any_of HT_.out (by kernel_rfl)) (fun _ _ _ h => h) (Or.inl ⟨by rfl, ?_⟩) ?_ ?_; rotate_left
                         ·intro w'; go_simp; with_reducible rfl
                         rotate_left
                         ·simp only [Act.put, List.setIfInBounds_toArray, List.set_cons_zero, List.set_cons_succ, i64_w, i32_w]; rfl
                         refine pure_ (i := 8) (N := some 99) (v := ?_) (a' := ?_) (bitsL 12 511) rfl rfl (any_of HT_.out (by kernel_rfl)) (fun _ _ _ h => h) (Or.inl ⟨by rfl, ?_⟩) ?_ ?_; rotate_left
                         ·intro w'; go_simp; with_reducible rfl
                         rotate_left
                         ·simp only [Act.put, List.setIfInBounds_toArray, List.set_cons_zero, List.set_cons_succ, i64_w, i32_w]; rfl
                         refine one_ (i := 9) (N := some 100) (bitsL 12 1023) rfl rfl (one_of HT_.out (by kernel_rfl)) (by decide) (fun K hK => ?_); refine value_ (w1 := ?_) (v := ?_) (by rfl) rfl ?_ ?_; rotate_left 2
                         ·go_simp
                          constructor
                          ·rfl
                          ·rfl
                         refine hK.out _ _ trivial (fun hHeld => ?_); clear hK K; refine norm_ (a' := ?_) ?_ ?_; rotate_left
                         ·show Act.put _ (some 100) _ = _
                          simp only [Act.put, List.setIfInBounds_toArray, List.set_cons_zero, List.set_cons_succ, i64_w, i32_w]; rfl
                         refine one_ (i := 10) (N := some 101) (bitsL 12 2047) rfl rfl (one_of HT_.out (by kernel_rfl)) (by decide) (fun K hK => ?_); refine Kd.R_append_step k67 (w0 := w) w.heap.size (by rfl) (.tmp 91) (.tmp 100) 29 67 (.agg #[(.string ⟨#[]⟩), (.string ⟨#[]⟩)]) 32 rfl Tryz.underlying29 info67 rfl (by decide) (by omega) (.slice Ao50 x5_1.length co50) x5_1 (⟨ex1_.extract 0 (x10_30 : Int).toNat, ex1_.extract ((ji46) : Int).toNat ex1_.size⟩ : S67) [.string (ex1_.extract 0 (x10_30 : Int).toNat), .string (ex1_.extract ((ji46) : Int).toNat ex1_.size)] (fun _ => True) (fun _ => False) rfl rfl ?aP (fun _ hk => hk.elim) ?aF ?aO ?aB ?aS ?aL ?_
                         (case aP => exact k67_mkM _ _ _ (⟨ex1_.extract 0 (x10_30 : Int).toNat, ex1_.extract ((ji46) : Int).toNat ex1_.size⟩ : S67))
                         (case aB => exact bw)
                         (case aF => exact (fun _ _ => trivial))
                         (case aO => exact (ra HO_5.out))
                         (case aS => exact (below_size bw))
                         (case aL => have := LMc49.out; omega)
                         intro v314 w52 ho hb hg hat; rw [← Ny313.out] at ho; have n0_ := Aside0.mk (hb); have n1_ := Aside0.mk (ho); clear HB HO_5; have HB := n0_; have HO315 := n1_; clear n0_ n1_ ho hb hg hat; refine hK.out _ _ trivial (fun hHeld => ?_); clear hK K; refine norm_ (a' := ?_) ?_ ?_; rotate_left
                         ·show Act.put _ (some 101) _ = _
                          simp only [Act.put, List.setIfInBounds_toArray, List.set_cons_zero, List.set_cons_succ, i64_w, i32_w]; rfl
                         refine pure_ (i := 11) (N := some 5) (v := ?_) (a' := ?_) (bitsL 12 4095) rfl rfl (any_of HT_.out (by kernel_rfl)) (fun _ _ _ h => h) (Or.inl ⟨by rfl, ?_⟩) ?_ ?_; rotate_left
                         ·intro w'; go_simp; with_reducible rfl
                         rotate_left
                         ·simp only [Act.put, List.setIfInBounds_toArray, List.set_cons_zero, List.set_cons_succ, i64_w, i32_w]; rfl
                         refine done_ (done_of HT_.out (by kernel_rfl)) ?_
                         try go_wp2
                         go_roundg kj35
                         case measure => have := HK1.out; have := HJ30.out; have := HJ35.out; omega
                         case rel => exact ⟨(y313), (x6_1), ((wrap64 ((wrap64 (x7_1 + t307)) + 2))), cl, cl, H', ⟨by have := HK1.out; have := HJ30.out; have := HJ35.out; omega⟩, ⟨by (with_reducible repeat (first | apply Kd.R_alloc | apply Kd.R_drewN | apply Kd.R_drew)); exact HO315.out⟩, ⟨bw⟩⟩
                        ·rw [if_neg c49] at H; exact absurd H (by simp)
                       ·rw [if_neg c48] at H; exact absurd H (by simp)
                      ·rw [if_neg c47] at H; exact absurd H (by simp)
                     ·rw [if_neg c45] at H; exact absurd H (by simp)
                    ·rw [if_neg c44] at H; exact absurd H (by simp)
            ·rw [if_neg c17] at H; exact absurd H (by simp)
           ·replace c16 := Bool.eq_false_iff.mpr c16; subst c16; have H1 : (some (([] : List (S67)), (⟨#[]⟩ : ByteArray), 150)) = some (r1, r2, r3) := by rw [if_neg (show ¬ (false = true) by decide)] at H; exact H
            clear H; have H := H1; clear H1; simp only [Option.some.injEq, Prod.mk.injEq] at H; obtain ⟨rfl, rfl, rfl⟩ := H
            go_wp2_with (first | ((with_reducible refine gate_callee (f := 61) rfl ?_); refine goesL_ (some 19) rfl rfl Tryz.func61 (by kernel_rfl) rfl #[.string (a0.extract (x7_1 : Int).toNat a0.size)] rfl am ?_; (with_reducible refine (bulletinref15_line.calls k1 (a0.extract (x7_1 : Int).toNat a0.size) t307 _ A5.out).mono ?_); rintro e w' ⟨rfl, ⟨nd, rfl⟩⟩; refine ⟨_, rfl, ?_⟩) | ((with_reducible refine gate_callee (f := 62) rfl ?_); refine goesL_ (some 42) rfl rfl Tryz.func62 (by kernel_rfl) rfl #[.string ex1_] rfl am ?_; (with_reducible refine (bulletinref15_textual.calls k1 ex1_ false _ A15.out).mono ?_); rintro e w' ⟨rfl, ⟨nd, rfl⟩⟩; refine ⟨_, rfl, ?_⟩))
            go_ret3
            exact ⟨_, ew, by first | exact Kd.R_nil _ _ _ _ _ | exact Kd.N_nil _ _ _ _ _ | exact Kd.V_nil _ _ _ _ _ | exact Kd.Q_nil _ _ _ _ _ | exact Kd.S_nil _ _ _ _ _, bw⟩
        ·rw [if_neg c9] at H; exact absurd H (by simp)
       ·rw [if_neg c8] at H; exact absurd H (by simp)
     ·rw [if_neg c4] at H; exact absurd H (by simp)
    ·rw [if_neg c3] at H; exact absurd H (by simp)
   ·rw [if_neg c2] at H; have c2b0 : decide (x7_1 < (a0.size : Int)) = false := decide_eq_false c2; clear c2; have H' := Aside0.mk H; clear H
    go_wp2
    go_loopg [11] k1 (fun kq v11 w' => ∃ (x5_2 : List (S67)) (x11_2 : Int), v11 = .int .i64 x11_2 ∧ Aside0 (bulletinref15_Parse.l2 kq x5_2 x6_1 x11_2 = some (r1, r2, r3)) ∧ Aside0 (kq ≤ k1) ∧ Aside0 (Kd.R k67 67 w' w.heap.size (fun _ => True) u5 x5_2) ∧ Aside0 (Below w.heap.size w w'))
    case atStart => exact ⟨(x5_1), (0), cl, H', ⟨Nat.le_refl _⟩, ⟨by (with_reducible repeat (first | apply Kd.R_alloc | apply Kd.R_drewN | apply Kd.R_drew)); exact HO_5.out⟩, ⟨bw⟩⟩
    case round =>
     clear H'
     try clear c1
     try clear p1
     try clear q1
     try clear hx1
     try clear qi1
     try clear c2
     try clear c2b0
     try clear p2
     try clear q2
     try clear hx2
     try clear hf2
     try clear c3
     try clear c3b0
     try clear c3b1
     try clear p3
     try clear q3
     try clear hx3
     try clear c4
     try clear c4b0
     try clear c4b1
     try clear c6
     try clear c6b0
     try clear p6
     try clear c7
     try clear c7b0
     try clear c8
     try clear c8b0
     try clear c8b1
     try clear c9
     try clear c9b0
     try clear c9b1
     try clear c10
     try clear c10b0
     try clear c10b1
     try clear c12
     try clear c12b0
     try clear c12b1
     try clear c13
     try clear c13b0
     try clear c13b1
     try clear c14
     try clear c14b0
     try clear c16
     try clear c17
     try clear c17b0
     try clear c17b1
     try clear p18
     try clear q18
     try clear hx18
     try clear qi18
     try clear c20
     try clear c21
     try clear c21b0
     try clear c21b1
     try clear c21b2
     try clear c24
     try clear c24b0
     try clear c25
     try clear c25b0
     try clear c26
     try clear c26b0
     try clear c26b1
     try clear c26b2
     try clear c27
     try clear p27
     try clear q27
     try clear hx27
     try clear hf27
     try clear c29
     try clear hx29
     try clear hf29
     try clear p31
     try clear q31
     try clear hx31
     try clear c32
     try clear c32b0
     try clear c33
     try clear c33b0
     try clear p34
     try clear q34
     try clear hx34
     try clear c35
     try clear c35b0
     try clear c35b1
     try clear c37
     try clear c37b0
     try clear c37b1
     try clear c38
     try clear c38b0
     try clear c38b1
     try clear c39
     try clear c39b0
     try clear c39b1
     try clear c41
     try clear c42
     try clear c42b0
     try clear c42b1
     try clear c44
     try clear c44b0
     try clear c44b1
     try clear c45
     try clear c45b0
     try clear c45b1
     try clear c47
     try clear c47b0
     try clear c47b1
     try clear c48
     try clear c48b0
     try clear c48b1
     try clear c49
     try clear hx27_0
     try clear hx27_1
     try clear hx29_1
     try clear hx310_0
     try clear hx310_1
     try clear p1
     try clear p18
     try clear p2
     try clear p27
     try clear p3
     try clear p31
     try clear p310
     try clear p34
     try clear p6
     try clear q1
     try clear q18
     try clear q2
     try clear q27
     try clear q3
     try clear q31
     try clear q310
     try clear q34
     obtain ⟨x5_2, x11_2, rfl, HA, HK2, HO_5, HB⟩ := hrel; cases gk with
     | zero => exact absurd HA.out (by simp [bulletinref15_Parse.l2])
     | succ k2 =>
      have H := HA.out; clear HA; simp only [bulletinref15_Parse.l2] at H
      by_cases c53 : x11_2 < (x5_2.length : Int)
      ·rw [if_pos c53] at H; have c53b0 : decide (x11_2 < (x5_2.length : Int)) = true := decide_eq_true c53; clear c53
       by_cases c54 : 0 ≤ x11_2
       ·rw [if_pos c54] at H; have c54b0 : decide (0 ≤ x11_2) = true := decide_eq_true c54; clear c54; replace H := Option.bind_eq_some_iff.mp H; obtain ⟨t317, A550, H⟩ := H; replace H : (bulletinref15_Parse.l2 k2 (x5_2.set (x11_2 : Int).toNat (⟨(rd_T67 x5_2 x11_2).f0, t317⟩ : S67)) x6_1 (wrap64 (x11_2 + 1))) = some (r1, r2, r3) := H; have A55 := Aside0.mk A550; clear A550; obtain ⟨y318, hy318⟩ : ∃ y_ : List (S67), y_ = (x5_2.set (x11_2 : Int).toNat (⟨(rd_T67 x5_2 x11_2).f0, t317⟩ : S67)) := ⟨_, rfl⟩
        replace H : (bulletinref15_Parse.l2 k2 y318 x6_1 (wrap64 (x11_2 + 1))) = some (r1, r2, r3) := by first | (rw [hy318]; with_reducible exact H) | (have H2_ := (Option.bind_some _ _).symm.trans H; rw [hy318]; with_reducible exact H2_) | (have H2_ := (Option.bind_some _ _).symm.trans H; with_reducible exact H2_) | with_reducible exact H | (rw [hy318]; exact H) | exact H
        have Ny318 := Aside0.mk hy318; clear hy318; have H' := Aside0.mk H; clear H; obtain ⟨Ao57, co57, eo57⟩ := Kd.R_slice HO_5.out; subst eo57; have p316 : 0 ≤ (x11_2 : Int) := od; have q316 : x11_2 < (x5_2.length : Int) := od; obtain ⟨ad316, e316, hx316_0, hx316_1⟩ := at_T67 (Kd.R_reads' HO_5.out).2.2 x11_2 p316 q316; cases e316; replace p316 := eq_true p316; replace q316 := eq_true q316
        go_wp2_with (first | ((with_reducible refine gate_callee (f := 65) rfl ?_); refine goesL_ (some 115) rfl rfl Tryz.func65 (by kernel_rfl) rfl #[.string ((rd_T67 x5_2 x11_2).f1)] rfl am ?_; (with_reducible refine (bulletinref15_Trim.calls k2 ((rd_T67 x5_2 x11_2).f1) t317 _ A55.out).mono ?_); rintro e w' ⟨rfl, ⟨nd, rfl⟩⟩; refine ⟨_, rfl, ?_⟩; (try (rw [drewN_self wr]; generalize hq_ : World.drewN wr _ = wr; have n0_ : Aside0 (Kd.R k67 67 wr w.heap.size (fun _ => True) (.slice (some ad316) x5_2.length co57) x5_2) := ⟨by rw [← hq_]; exact (ra HO_5.out)⟩; have n1_ : Aside0 (Below w.heap.size w wr) := ⟨by rw [← hq_]; exact bw⟩; clear HO_5 HB hq_; have HO_5 := n0_; have HB := n1_; clear n0_ n1_)); have p56 : 0 ≤ (x11_2 : Int) := od; have q56 : (x11_2 : Int) < ((x5_2.length : Int) : Int) := od; obtain ⟨go56, co56, eo56, gb56, gl56, cl56, HG56⟩ := Kd.R_form HO_5.out (by omega); (first | cases eo56 | (injection eo56 with ea_ en_ ec_; (first | subst ea_ | (injection ea_ with ea_; subst ea_)); subst ec_; clear en_)); have GB56 := Aside0.mk gb56; have GG56 := Aside0.mk HG56; clear gb56 gl56 HG56; (first | simp only [add_plain] at hx316_0 | skip); (first | simp only [add_plain] at hx316_1 | skip); obtain ⟨ce56, hcl56, hM56, hcc56, hfr56⟩ := Kd.R_elem HO_5.out z67 (x11_2 : Int) p56 q56; obtain rfl := k67_openM hM56; have hx56_0 : wr.cell? ⟨go56, (x11_2 : Int).toNat * 2, none⟩ = some (.string ((rd_T67 x5_2 x11_2).f0)) := hcc56 0 _ rfl; have hx56_1 : wr.cell? ⟨go56, (x11_2 : Int).toNat * 2 + 1, none⟩ = some (.string ((rd_T67 x5_2 x11_2).f1)) := hcc56 1 _ rfl; have hf56_0 : wr.frozen? ⟨go56, (x11_2 : Int).toNat * 2, none⟩ = false := hfr56 0; have hf56_1 : wr.frozen? ⟨go56, (x11_2 : Int).toNat * 2 + 1, none⟩ = false := hfr56 1; clear hcl56 hcc56 hfr56 hM56; replace p56 := eq_true p56; replace q56 := eq_true q56; have HX58 := Aside0.mk (show Kd.R k67 67 wr w.heap.size (fun _ => True) (.slice (some ⟨go56, 0, none⟩) x5_2.length co57) x5_2 from (ra HO_5.out)); obtain ⟨ce58, hcl58, hM58, hcc58, hfr58⟩ := Kd.R_elem HX58.out z67 (x11_2 : Int) (od) (by have h_ : (x11_2 : Int) < ((x5_2.length : Int) : Int) := od; first | exact h_ | (have e_ := (Kd.R_reads' HO_5.out).1; omega) | simpa using h_); obtain rfl := k67_openM hM58; have HP58 := Kd.R_seg HX58.out (x11_2 : Int) (od) (by have h_ : (x11_2 : Int) < ((x5_2.length : Int) : Int) := od; first | exact h_ | (have e_ := (Kd.R_reads' HO_5.out).1; omega) | simpa using h_) (seg := [.string t317]) (j := 1) hcl58 hcc58 (show 2 ≤ 2 from by decide) (x' := (⟨(rd_T67 x5_2 x11_2).f0, t317⟩ : S67)) (k67_mkM _ _ _ (⟨(rd_T67 x5_2 x11_2).f0, t317⟩ : S67) ) (fun _ hk => hk); have hx58_1 := hcc58 1 _ rfl; (try simp only [show (k67).sz = 2 from rfl, Nat.mul_one, Nat.add_zero] at hx58_1); have hf58_1 := hfr58 1; (try simp only [show (k67).sz = 2 from rfl, Nat.mul_one, Nat.add_zero] at hf58_1); clear hcl58 hcc58 hfr58 hM58) | ((with_reducible refine gate_store (t := 9) (p := 117) rfl ?_); refine store_event (t := 9) (p := 117) (v := ?vo_w59) (w1 := (wr.setCell ⟨go56, (x11_2 : Int).toNat * 2 + 1, none⟩ (.string t317))) ?hg ?ho ?hn ?hr ?_; (case ho => rfl); (case hg => rfl); (case hn => rfl); (case hr => first | (go_simp; done) | (go_simp; rfl)); intro w59 hw; have hg : wr.grownBy w59 (some go56) := (by rw [hw]; exact HP58.2); have hp_ : Kd.R k67 67 w59 w.heap.size (fun _ => True) (.slice (some ⟨go56, 0, none⟩) x5_2.length co57) y318 := (by rw [hw, Ny318.out]; exact HP58.1); clear HP58; have n0_ := Aside0.mk (hp_); have n1_ := Aside0.mk ((by rw [hw]; exact below_set (HB.out) GB56.out : Below w.heap.size w w59)); clear HO_5; clear HB; have HO_5 := n0_; have HB := n1_; clear n0_ n1_; clear hg hw hp_))
        go_roundg k2
        case measure => have := HK1.out; have := HK2.out; omega
        case rel => exact ⟨(y318), (wrap64 (x11_2 + 1)), cl, H', ⟨by have := HK1.out; have := HK2.out; omega⟩, ⟨by (with_reducible repeat (first | apply Kd.R_alloc | apply Kd.R_drewN | apply Kd.R_drew)); exact HO_5.out⟩, ⟨bw⟩⟩
       ·rw [if_neg c54] at H; exact absurd H (by simp)
      ·rw [if_neg c53] at H; have c53b0 : decide (x11_2 < (x5_2.length : Int)) = false := decide_eq_false c53; clear c53; simp only [Option.some.injEq, Prod.mk.injEq] at H; obtain ⟨rfl, rfl, rfl⟩ := H; obtain ⟨Ao60, co60, eo60⟩ := Kd.R_slice HO_5.out; subst eo60
       go_wp2
       go_ret3
       exact ⟨_, ew, by (with_reducible repeat (first | apply Kd.R_alloc | apply Kd.R_drewN | apply Kd.R_drew)); exact HO_5.out, bw⟩

end Go.Proofs.YtbjbpgmjijeppaaGreatDoor.Fn
namespace Go.Proofs.YtbjbpgmjijeppaaGreatDoor.Fn
open Go.RowKit Go.Proofs.YtbjbpgmjijeppaaGreatDoorW.PrintWords Go.Proofs.YtbjbpgmjijeppaaGreatDoorW.PrintLast Go.Proofs.YtbjbpgmjijeppaaGreatDoorW.PrintMore
attribute [local go_sem] max2_int min2_int max_two min_two max_three min_three max_four min_four
set_option linter.unusedVariables false
set_option linter.unusedSimpArgs false

def bulletinref16_Parse.f (k : Nat) (a0 : ByteArray) : Option ((List (S67)) × ByteArray × Int) := if (a0.size : Int) > 65536 then (some (([] : List (S67)), (⟨#[]⟩ : ByteArray), 2)) else ((bulletinref15_Parse.f k a0).bind fun bt320 => (if bt320.2.2 = 0 then (some (bt320.1, bt320.2.1, 0)) else (some (([] : List (S67)), (⟨#[]⟩ : ByteArray), bt320.2.2))))
set_option maxHeartbeats 8000000 in
set_option maxRecDepth 100000 in
theorem bulletinref16_Parse.calls (k : Nat) (a0 : ByteArray) (r1 : List (S67)) (r2 : ByteArray) (r3 : Int) (w : World) (h : bulletinref16_Parse.f k a0 = some (r1, r2, r3)) :
  Calls Tryz.prog 11 #[.string a0] w fun e w' => ∃ v0_ : Value, e = .returned (.tuple #[.agg #[v0_, .string r2], .int .i64 r3]) ∧ Kd.R k67 67 w' w.heap.size (fun _ => True) v0_ r1 ∧ Below w.heap.size w w' := by
 have hu31 := Tryz.underlying31; have HB := Aside0.mk (Below.refl w.heap.size w); have H : (if (a0.size : Int) > 65536 then (some (([] : List (S67)), (⟨#[]⟩ : ByteArray), 2)) else ((bulletinref15_Parse.f k a0).bind fun bt320 => (if bt320.2.2 = 0 then (some (bt320.1, bt320.2.1, 0)) else (some (([] : List (S67)), (⟨#[]⟩ : ByteArray), bt320.2.2))))) = some (r1, r2, r3) := h; clear h
 by_cases c2 : (a0.size : Int) > 65536
 ·rw [if_pos c2] at H; have c2b0 : decide (65536 < (a0.size : Int)) = true := decide_eq_true c2; have c2b1 : decide (65536 < a0.size) = true := decide_eq_true (by omega); clear c2; simp only [Option.some.injEq, Prod.mk.injEq] at H; obtain ⟨rfl, rfl, rfl⟩ := H
  go_enter Tryz.func11, Tryz.ntmps11
  go_wp2_with (first | ((with_reducible refine gate_dst (N := 2) rfl ?_); refine box_event ?hg (N := 2) ?hd (cs := #[.slice none 0 0, .string (⟨#[]⟩ : ByteArray)]) (t := 31) ?hr ?_; (case hd => rfl); (case hg => rfl); (case hr => first | (go_simp; done) | (go_simp; rfl)); intro gb319 hg w3 hbox hb; have n0_ := Aside0.mk (below_step bw hb); have n1_ := Aside0.mk (hbox); have n2_ := Aside0.mk ((by rw [hg]; exact (below_size bw) : w.heap.size ≤ gb319)); have n3_ := Aside0.mk ((by rw [hg]; exact (below_size bw) : w.heap.size ≤ gb319)); clear HB; have HB := n0_; have BK319 := n1_; have GW319 := n2_; have GE319 := n3_; clear n0_ n1_ n2_ n3_; clear hb hbox hg; have hcz4_0 : w3.cell? ⟨gb319, 0, none⟩ = some (.slice none 0 0) := (blk_cell BK319.out 0).trans rfl; have hcz4_1 : w3.cell? ⟨gb319, 1, none⟩ = some (.string (⟨#[]⟩ : ByteArray)) := (blk_cell BK319.out 1).trans rfl; have hfz4_0 := blk_frozen BK319.out 0; have hfz4_1 := blk_frozen BK319.out 1))
  refine bodyPost_ret (results_ct rfl _ _ gb319 31 #[.slice none 0 0, .string (⟨#[]⟩ : ByteArray)] (0, 0) _ rfl (by (with_reducible repeat (first | refine blk_drewN ?_ _ | refine blk_drew ?_ | refine blk_alloc ?_ _)); refine blk_put (cs := #[.slice none 0 0, .string (⟨#[]⟩ : ByteArray)]) ?_ 1 _ rfl; (with_reducible repeat (first | refine blk_drewN ?_ _ | refine blk_drew ?_ | refine blk_alloc ?_ _)); exact blk_put (cs := #[.slice none 0 0, .string (⟨#[]⟩ : ByteArray)]) bk 0 _ rfl) Tryz.underlying31 rfl (by kernel_rfl)) rfl ?_; exact ⟨_, ew, by first | exact Kd.R_nil _ _ _ _ _ | exact Kd.N_nil _ _ _ _ _ | exact Kd.V_nil _ _ _ _ _ | exact Kd.Q_nil _ _ _ _ _ | exact Kd.S_nil _ _ _ _ _, bwS⟩
 ·rw [if_neg c2] at H; have c2b0 : decide (65536 < (a0.size : Int)) = false := decide_eq_false c2; have c2b1 : decide (65536 < a0.size) = false := decide_eq_false (by omega); clear c2; replace H := Option.bind_eq_some_iff.mp H; obtain ⟨⟨t320, t321, t322⟩, A50, H⟩ := H; replace H : (if t322 = 0 then (some (t320, t321, 0)) else (some (([] : List (S67)), (⟨#[]⟩ : ByteArray), t322))) = some (r1, r2, r3) := H; have A5 := Aside0.mk A50; clear A50
  by_cases c6 : t322 = 0
  ·rw [if_pos c6] at H; have c6b0 : (t322 == 0) = true := beq_iff_eq.mpr c6; have c6b1 : (t322 != 0) = false := bne_eq_false_iff_eq.mpr c6; clear c6; simp only [Option.some.injEq, Prod.mk.injEq] at H; obtain ⟨rfl, rfl, rfl⟩ := H
   go_enter Tryz.func11, Tryz.ntmps11
   go_wp2_with (first | ((with_reducible refine gate_dst (N := 2) rfl ?_); refine box_event ?hg (N := 2) ?hd (cs := #[.slice none 0 0, .string (⟨#[]⟩ : ByteArray)]) (t := 31) ?hr ?_; (case hd => rfl); (case hg => rfl); (case hr => first | (go_simp; done) | (go_simp; rfl)); intro gb319 hg w7 hbox hb; have n0_ := Aside0.mk (below_step bw hb); have n1_ := Aside0.mk (hbox); have n2_ := Aside0.mk ((by rw [hg]; exact (below_size bw) : w.heap.size ≤ gb319)); have n3_ := Aside0.mk ((by rw [hg]; exact (below_size bw) : w.heap.size ≤ gb319)); clear HB; have HB := n0_; have BK319 := n1_; have GW319 := n2_; have GE319 := n3_; clear n0_ n1_ n2_ n3_; clear hb hbox hg) | ((with_reducible refine gate_callee (f := 37) rfl ?_); refine goesL_ (some 13) rfl rfl Tryz.func37 (by kernel_rfl) rfl #[.string a0] rfl am ?_; (with_reducible refine (bulletinref15_Parse.calls k a0 t320 t321 t322 _ A5.out).mono ?_); rintro e w8 ⟨v323, rfl, ho0, hb⟩; refine ⟨_, rfl, ?_⟩; have n0_ := Aside0.mk (Kd.R_lower ho0 (below_size bwS)); have n1_ := Aside0.mk (blk_below (g := gb319) (o := .cells #[.slice none 0 0, .string (⟨#[]⟩ : ByteArray)] 31 (0, 0)) bk hb); have n2_ := Aside0.mk (below_step bwS hb); clear BK319; clear HB; have HO324 := n0_; have BK319 := n1_; have HB := n2_; clear n0_ n1_ n2_; (try clear hb); (try clear hb2); (try clear hk); (try clear hi); (try clear ho0); obtain ⟨Ao9, co9, eo9⟩ := Kd.R_slice HO324.out; subst eo9; have hcz10_0 : w8.cell? ⟨gb319, 0, none⟩ = some (.slice none 0 0) := (blk_cell BK319.out 0).trans rfl; have hcz10_1 : w8.cell? ⟨gb319, 1, none⟩ = some (.string (⟨#[]⟩ : ByteArray)) := (blk_cell BK319.out 1).trans rfl; have hfz10_0 := blk_frozen BK319.out 0; have hfz10_1 := blk_frozen BK319.out 1))
   refine bodyPost_ret (results_ct rfl _ _ gb319 31 #[.slice Ao9 t320.length co9, .string t321] (0, 0) _ rfl (by (with_reducible repeat (first | refine blk_drewN ?_ _ | refine blk_drew ?_ | refine blk_alloc ?_ _)); refine blk_put (cs := #[.slice Ao9 t320.length co9, .string (⟨#[]⟩ : ByteArray)]) ?_ 1 _ rfl; (with_reducible repeat (first | refine blk_drewN ?_ _ | refine blk_drew ?_ | refine blk_alloc ?_ _)); exact blk_put (cs := #[.slice none 0 0, .string (⟨#[]⟩ : ByteArray)]) bk 0 _ rfl) Tryz.underlying31 rfl (by kernel_rfl)) rfl ?_; exact ⟨_, ew, by (with_reducible repeat (first | apply Kd.R_alloc | apply Kd.R_drewN | apply Kd.R_drew)); exact Kd.R_mono (Kd.R_far (p := ⟨gb319, 1, none⟩) (Kd.R_far (p := ⟨gb319, 0, none⟩) (Kd.R_types HO324.out BK319.out (by decide)) (fun _ hk => hk.2) (.slice Ao9 t320.length co9)) (fun _ hk => hk.2) (.string t321)) (fun _ hk => trivial), bwS⟩
  ·rw [if_neg c6] at H; have c6b0 : (t322 == 0) = false := beq_eq_false_iff_ne.mpr c6; have c6b1 : (t322 != 0) = true := bne_iff_ne.mpr c6; simp only [Option.some.injEq, Prod.mk.injEq] at H; obtain ⟨rfl, rfl, rfl⟩ := H
   go_enter Tryz.func11, Tryz.ntmps11
   go_wp2_with (first | ((with_reducible refine gate_dst (N := 2) rfl ?_); refine box_event ?hg (N := 2) ?hd (cs := #[.slice none 0 0, .string (⟨#[]⟩ : ByteArray)]) (t := 31) ?hr ?_; (case hd => rfl); (case hg => rfl); (case hr => first | (go_simp; done) | (go_simp; rfl)); intro gb319 hg w11 hbox hb; have n0_ := Aside0.mk (below_step bw hb); have n1_ := Aside0.mk (hbox); have n2_ := Aside0.mk ((by rw [hg]; exact (below_size bw) : w.heap.size ≤ gb319)); have n3_ := Aside0.mk ((by rw [hg]; exact (below_size bw) : w.heap.size ≤ gb319)); clear HB; have HB := n0_; have BK319 := n1_; have GW319 := n2_; have GE319 := n3_; clear n0_ n1_ n2_ n3_; clear hb hbox hg) | ((with_reducible refine gate_callee (f := 37) rfl ?_); refine goesL_ (some 13) rfl rfl Tryz.func37 (by kernel_rfl) rfl #[.string a0] rfl am ?_; (with_reducible refine (bulletinref15_Parse.calls k a0 t320 t321 t322 _ A5.out).mono ?_); rintro e w12 ⟨v323, rfl, ho0, hb⟩; refine ⟨_, rfl, ?_⟩; have n0_ := Aside0.mk (Kd.R_lower ho0 (below_size bwS)); have n1_ := Aside0.mk (blk_below (g := gb319) (o := .cells #[.slice none 0 0, .string (⟨#[]⟩ : ByteArray)] 31 (0, 0)) bk hb); have n2_ := Aside0.mk (below_step bwS hb); clear BK319; clear HB; have HO324 := n0_; have BK319 := n1_; have HB := n2_; clear n0_ n1_ n2_; (try clear hb); (try clear hb2); (try clear hk); (try clear hi); (try clear ho0); have hcz13_0 : w12.cell? ⟨gb319, 0, none⟩ = some (.slice none 0 0) := (blk_cell BK319.out 0).trans rfl; have hcz13_1 : w12.cell? ⟨gb319, 1, none⟩ = some (.string (⟨#[]⟩ : ByteArray)) := (blk_cell BK319.out 1).trans rfl; have hfz13_0 := blk_frozen BK319.out 0; have hfz13_1 := blk_frozen BK319.out 1))
   refine bodyPost_ret (results_ct rfl _ _ gb319 31 #[.slice none 0 0, .string (⟨#[]⟩ : ByteArray)] (0, 0) _ rfl (by (with_reducible repeat (first | refine blk_drewN ?_ _ | refine blk_drew ?_ | refine blk_alloc ?_ _)); refine blk_put (cs := #[.slice none 0 0, .string (⟨#[]⟩ : ByteArray)]) ?_ 1 _ rfl; (with_reducible repeat (first | refine blk_drewN ?_ _ | refine blk_drew ?_ | refine blk_alloc ?_ _)); exact blk_put (cs := #[.slice none 0 0, .string (⟨#[]⟩ : ByteArray)]) bk 0 _ rfl) Tryz.underlying31 rfl (by kernel_rfl)) rfl ?_; exact ⟨_, ew, by first | exact Kd.R_nil _ _ _ _ _ | exact Kd.N_nil _ _ _ _ _ | exact Kd.V_nil _ _ _ _ _ | exact Kd.Q_nil _ _ _ _ _ | exact Kd.S_nil _ _ _ _ _, bwS⟩

end Go.Proofs.YtbjbpgmjijeppaaGreatDoor.Fn
namespace Go.Proofs.YtbjbpgmjijeppaaGreatDoor.Fn
open Go.RowKit Go.Proofs.YtbjbpgmjijeppaaGreatDoorW.PrintWords Go.Proofs.YtbjbpgmjijeppaaGreatDoorW.PrintLast Go.Proofs.YtbjbpgmjijeppaaGreatDoorW.PrintMore
attribute [local go_sem] max2_int min2_int max_two min_two max_three min_three max_four min_four
set_option linter.unusedVariables false
set_option linter.unusedSimpArgs false

mutual
def bulletinref15_Lines.j0 : Nat → List ByteArray → ByteArray → ByteArray → Option (List ByteArray)
 | 0, _, _, _ => none
 | k + 1, x3, x4, x5 => bulletinref15_Lines.l0 k x3 x4 x5 true 0
def bulletinref15_Lines.l0 : Nat → List ByteArray → ByteArray → ByteArray → Bool → Int → Option (List ByteArray)
 | 0, _, _, _, _, _ => none
 | k + 1, x3, x4, x5, x6, x7 => if x7 < (x5.size : Int) then (bulletinref15_Lines.l1 k x3 x4 x5 x6 x7 x7) else (if x3.length < 8796093022208 then (some (x3 ++ [x4])) else (none))
def bulletinref15_Lines.j3 : Nat → List ByteArray → ByteArray → ByteArray → Bool → Int → Int → Option (List ByteArray)
 | 0, _, _, _, _, _, _ => none
 | k + 1, x3, x4, x5, x6, x7, x8 => bulletinref15_Lines.l2 k x3 x4 x5 x6 x7 x8
def bulletinref15_Lines.l2 : Nat → List ByteArray → ByteArray → ByteArray → Bool → Int → Int → Option (List ByteArray)
 | 0, _, _, _, _, _, _ => none
 | k + 1, x3, x4, x5, x6, x7, x8 => if x8 < (x5.size : Int) then (if 0 ≤ x8 then ((bulletinref15_blank.f (bt x5 x8)).bind fun t337 => (if t337 = true then (if x6 = true then (if 0 ≤ x7 then (if x7 ≤ x8 then (if x8 ≤ (x5.size : Int) then (if x4.size + (x5.extract (x7 : Int).toNat (x8 : Int).toNat).size ≤ 9223372036854775807 then (bulletinref15_Lines.l0 k x3 (x4 ++ (x5.extract (x7 : Int).toNat (x8 : Int).toNat)) x5 false x8) else (none)) else (none)) else (none)) else (none)) else (if (wrap64 ((wrap64 ((x4.size : Int) + x8)) - x7)) > 78 then (if x3.length < 8796093022208 then (if 0 ≤ x7 then (if x7 ≤ x8 then (if x8 ≤ (x5.size : Int) then (if 0 + (x5.extract (x7 : Int).toNat (x8 : Int).toNat).size ≤ 9223372036854775807 then (bulletinref15_Lines.l0 k (x3 ++ [x4]) ((⟨#[]⟩ : ByteArray) ++ (x5.extract (x7 : Int).toNat (x8 : Int).toNat)) x5 false x8) else (none)) else (none)) else (none)) else (none)) else (none)) else (if 0 ≤ x7 then (if x7 ≤ x8 then (if x8 ≤ (x5.size : Int) then (if x4.size + (x5.extract (x7 : Int).toNat (x8 : Int).toNat).size ≤ 9223372036854775807 then (bulletinref15_Lines.l0 k x3 (x4 ++ (x5.extract (x7 : Int).toNat (x8 : Int).toNat)) x5 false x8) else (none)) else (none)) else (none)) else (none)))) else (bulletinref15_Lines.l2 k x3 x4 x5 x6 x7 (wrap64 (x8 + 1))))) else (none)) else (if x6 = true then (if 0 ≤ x7 then (if x7 ≤ x8 then (if x8 ≤ (x5.size : Int) then (if x4.size + (x5.extract (x7 : Int).toNat (x8 : Int).toNat).size ≤ 9223372036854775807 then (bulletinref15_Lines.l0 k x3 (x4 ++ (x5.extract (x7 : Int).toNat (x8 : Int).toNat)) x5 false x8) else (none)) else (none)) else (none)) else (none)) else (if (wrap64 ((wrap64 ((x4.size : Int) + x8)) - x7)) > 78 then (if x3.length < 8796093022208 then (if 0 ≤ x7 then (if x7 ≤ x8 then (if x8 ≤ (x5.size : Int) then (if 0 + (x5.extract (x7 : Int).toNat (x8 : Int).toNat).size ≤ 9223372036854775807 then (bulletinref15_Lines.l0 k (x3 ++ [x4]) ((⟨#[]⟩ : ByteArray) ++ (x5.extract (x7 : Int).toNat (x8 : Int).toNat)) x5 false x8) else (none)) else (none)) else (none)) else (none)) else (none)) else (if 0 ≤ x7 then (if x7 ≤ x8 then (if x8 ≤ (x5.size : Int) then (if x4.size + (x5.extract (x7 : Int).toNat (x8 : Int).toNat).size ≤ 9223372036854775807 then (bulletinref15_Lines.l0 k x3 (x4 ++ (x5.extract (x7 : Int).toNat (x8 : Int).toNat)) x5 false x8) else (none)) else (none)) else (none)) else (none))))
def bulletinref15_Lines.l1 : Nat → List ByteArray → ByteArray → ByteArray → Bool → Int → Int → Option (List ByteArray)
 | 0, _, _, _, _, _, _ => none
 | k + 1, x3, x4, x5, x6, x7, x8 => if x8 < (x5.size : Int) then (if 0 ≤ x8 then ((bulletinref15_blank.f (bt x5 x8)).bind fun t336 => (if t336 = true then (bulletinref15_Lines.l1 k x3 x4 x5 x6 x7 (wrap64 (x8 + 1))) else (bulletinref15_Lines.j3 k x3 x4 x5 x6 x7 x8))) else (none)) else (bulletinref15_Lines.j3 k x3 x4 x5 x6 x7 x8)
end
def bulletinref15_Lines.f (k : Nat) (a0_0 : ByteArray) (a0_1 : ByteArray) : Option (List ByteArray) := if a0_0.size + 1 ≤ 9223372036854775807 then (if a0_1.toList = ([] : List UInt8) then (bulletinref15_Lines.j0 k ([] : List ByteArray) (a0_0 ++ (⟨#[58]⟩ : ByteArray)) (⟨#[]⟩ : ByteArray)) else (if 1 + a0_1.size ≤ 9223372036854775807 then (bulletinref15_Lines.j0 k ([] : List ByteArray) (a0_0 ++ (⟨#[58]⟩ : ByteArray)) ((⟨#[32]⟩ : ByteArray) ++ a0_1)) else (none))) else (none)
set_option maxHeartbeats 8000000 in
set_option maxRecDepth 100000 in
theorem bulletinref15_Lines.calls (k : Nat) (a0_0 : ByteArray) (a0_1 : ByteArray) (r : List ByteArray) (w : World) (h : bulletinref15_Lines.f k a0_0 a0_1 = some r) :
  Calls Tryz.prog 91 #[.agg #[.string a0_0, .string a0_1]] w fun e w' => ∃ v0_ : Value, e = .returned (v0_) ∧ Kd.R Kd.string 9 w' w.heap.size (fun _ => True) v0_ r ∧ Below w.heap.size w w' := by
 have hu67 := Tryz.underlying67; have HB := Aside0.mk (Below.refl w.heap.size w); have H : (if a0_0.size + 1 ≤ 9223372036854775807 then (if a0_1.toList = ([] : List UInt8) then (bulletinref15_Lines.j0 k ([] : List ByteArray) (a0_0 ++ (⟨#[58]⟩ : ByteArray)) (⟨#[]⟩ : ByteArray)) else (if 1 + a0_1.size ≤ 9223372036854775807 then (bulletinref15_Lines.j0 k ([] : List ByteArray) (a0_0 ++ (⟨#[58]⟩ : ByteArray)) ((⟨#[32]⟩ : ByteArray) ++ a0_1)) else (none))) else (none)) = some r := h; clear h
 by_cases c2 : a0_0.size + 1 ≤ 9223372036854775807
 ·rw [if_pos c2] at H; have c2b0 := eq_true c2; have c2b1 : decide (a0_0.size + 1 ≤ 9223372036854775807) = true := decide_eq_true c2
  try have c2b2 : (9223372036854775807 < a0_0.size + 1) = False := eq_false (Nat.not_lt.2 c2)
  have HC3 := Aside0.mk H; clear H
  go_enter Tryz.func91, Tryz.ntmps91
  go_upto_if 14 with (first | ((with_reducible refine gate_dst (N := 1) rfl ?_); (try (refine gate_guard (by rfl) ?_; dsimp only)); refine box_event ?hg (N := 1) ?hd (cs := #[.string a0_0, .string a0_1]) (t := 67) ?hr ?_; (case hd => rfl); (case hg => rfl); (case hr => first | (go_simp; done) | (go_simp; rfl)); intro gb332 hg w4 hbox hb; have n0_ := Aside0.mk (below_step bw hb); have n1_ := Aside0.mk (hbox); have n2_ := Aside0.mk ((by rw [hg]; exact (below_size bw) : w.heap.size ≤ gb332)); have n3_ := Aside0.mk ((by rw [hg]; exact (below_size bw) : w.heap.size ≤ gb332)); clear HB; have HB := n0_; have BK332 := n1_; have GW332 := n2_; have GE332 := n3_; clear n0_ n1_ n2_ n3_; clear hb hbox hg; have hcz5_0 : w4.cell? ⟨gb332, 0, none⟩ = some (.string a0_0) := (blk_cell BK332.out 0).trans rfl; have hcz5_1 : w4.cell? ⟨gb332, 1, none⟩ = some (.string a0_1) := (blk_cell BK332.out 1).trans rfl; have hfz5_0 := blk_frozen BK332.out 0; have hfz5_1 := blk_frozen BK332.out 1))
  (try simp only [Act.put, List.setIfInBounds_toArray, List.set_cons_zero, List.set_cons_succ])
  go_cut [5] (fun v5 wc => ∃ (kq : Nat) (x5_2 : ByteArray), v5 = .string x5_2 ∧ Aside0 (bulletinref15_Lines.j0 kq ([] : List ByteArray) (a0_0 ++ (⟨#[58]⟩ : ByteArray)) x5_2 = some r) ∧ Aside0 (kq ≤ k) ∧ Aside0 (Kd.R Kd.string 9 wc w.heap.size (fun _ => True) (.slice none 0 0) ([] : List ByteArray)) ∧ Aside0 (wc.heap[gb332]? = some (.cells #[.string a0_0, .string a0_1] 67 (0, 0))) ∧ Aside0 (Below w.heap.size w wc))
  case first =>
   have H := HC3.out; clear HC3
   by_cases c6 : a0_1.toList = ([] : List UInt8)
   ·rw [if_pos c6] at H; have c6b0 : (a0_1.toList == ([] : List UInt8)) = true := beq_iff_eq.mpr c6; have c6b1 : (a0_1.toList != ([] : List UInt8)) = false := bne_eq_false_iff_eq.mpr c6
    (try have c6b5 : a0_1.toList.isEmpty = true := by simp [c6])
    (try have c6b6 : (!a0_1.toList.isEmpty) = false := by rw [c6b5]; rfl)
    clear c6
    (first | rw [c6b0] | (simp only [i64_w, i32_w]; rw [c6b0]) | rw [c6b6] | skip)
    have H' := Aside0.mk H; clear H
    go_wp2
    go_meet
    case rel => exact ⟨_, ((⟨#[]⟩ : ByteArray)), cl, H', ⟨by first | omega | exact Nat.le_refl _⟩, ⟨by first | exact Kd.R_nil _ _ _ _ _ | exact Kd.N_nil _ _ _ _ _ | exact Kd.V_nil _ _ _ _ _ | exact Kd.Q_nil _ _ _ _ _ | exact Kd.S_nil _ _ _ _ _⟩, ⟨bk⟩, ⟨bwS⟩⟩
   ·rw [if_neg c6] at H; have c6b0 : (a0_1.toList == ([] : List UInt8)) = false := beq_eq_false_iff_ne.mpr c6; have c6b1 : (a0_1.toList != ([] : List UInt8)) = true := bne_iff_ne.mpr c6
    (try have c6b5 : a0_1.toList.isEmpty = false := by simp [c6])
    (try have c6b6 : (!a0_1.toList.isEmpty) = true := by rw [c6b5]; rfl)
    (first | rw [c6b0] | (simp only [i64_w, i32_w]; rw [c6b0]) | rw [c6b6] | skip)
    by_cases c7 : 1 + a0_1.size ≤ 9223372036854775807
    ·rw [if_pos c7] at H; have c7b0 := eq_true c7; have c7b1 : decide (1 + a0_1.size ≤ 9223372036854775807) = true := decide_eq_true c7
     try have c7b2 : (9223372036854775807 < 1 + a0_1.size) = False := eq_false (Nat.not_lt.2 c7)
     have H' := Aside0.mk H; clear H; have hcz8_0 : w4.cell? ⟨gb332, 0, none⟩ = some (.string a0_0) := (blk_cell BK332.out 0).trans rfl; have hcz8_1 : w4.cell? ⟨gb332, 1, none⟩ = some (.string a0_1) := (blk_cell BK332.out 1).trans rfl; have hfz8_0 := blk_frozen BK332.out 0; have hfz8_1 := blk_frozen BK332.out 1
     go_wp2
     go_meet
     case rel => exact ⟨_, ((⟨#[32]⟩ : ByteArray) ++ a0_1), cl, H', ⟨by first | omega | exact Nat.le_refl _⟩, ⟨by first | exact Kd.R_nil _ _ _ _ _ | exact Kd.N_nil _ _ _ _ _ | exact Kd.V_nil _ _ _ _ _ | exact Kd.Q_nil _ _ _ _ _ | exact Kd.S_nil _ _ _ _ _⟩, ⟨bk⟩, ⟨bwS⟩⟩
    ·rw [if_neg c7] at H; exact absurd H (by simp)
  case rest =>
   clear HC3
   try clear c2
   try clear c2b0
   try clear c2b1
   try clear c2b2
   try clear p2
   try clear c6
   try clear c6b0
   try clear c6b1
   try clear c7
   try clear c7b0
   try clear c7b1
   try clear c7b2
   try clear hcz5_0
   try clear hcz5_1
   try clear hcz8_0
   try clear hcz8_1
   try clear hfz5_0
   try clear hfz5_1
   try clear hfz8_0
   try clear hfz8_1
   obtain ⟨kq, x5_2, rfl, HA, HJ2, HO_3, BK332, HB⟩ := hcut; cases kq with
   | zero => exact absurd HA.out (by simp [bulletinref15_Lines.j0])
   | succ kj2 =>
    have H := HA.out; clear HA; simp only [bulletinref15_Lines.j0] at H; have H' := Aside0.mk H; clear H
    go_wp2
    go_loopg [3, 4, 6, 7] kj2 (fun kq v3 v4 v6 v7 w' => ∃ (x3_2 : List ByteArray) (x4_2 : ByteArray) (x6_2 : Bool) (x7_2 : Int), v4 = .string x4_2 ∧ v6 = .bool x6_2 ∧ v7 = .int .i64 x7_2 ∧ Aside0 (bulletinref15_Lines.l0 kq x3_2 x4_2 x5_2 x6_2 x7_2 = some r) ∧ Aside0 (kq ≤ kj2) ∧ Aside0 (Kd.R Kd.string 9 w' w.heap.size (fun _ => True) v3 x3_2) ∧ Aside0 (w'.heap[gb332]? = some (.cells #[.string a0_0, .string a0_1] 67 (0, 0))) ∧ Aside0 (Below w.heap.size w w'))
    case atStart => exact ⟨(([] : List ByteArray)), ((a0_0 ++ (⟨#[58]⟩ : ByteArray))), (true), (0), cl, cl, cl, H', ⟨Nat.le_refl _⟩, ⟨by (with_reducible repeat (first | apply Kd.R_alloc | apply Kd.R_drewN | apply Kd.R_drew)); exact HO_3.out⟩, ⟨bk⟩, ⟨bwS⟩⟩
    case round =>
     clear H'
     try clear c2
     try clear c2b0
     try clear c2b1
     try clear c2b2
     try clear p2
     try clear c6
     try clear c6b0
     try clear c6b1
     try clear c7
     try clear c7b0
     try clear c7b1
     try clear c7b2
     try clear hcz5_0
     try clear hcz5_1
     try clear hcz8_0
     try clear hcz8_1
     try clear hfz5_0
     try clear hfz5_1
     try clear hfz8_0
     try clear hfz8_1
     try clear p2
     obtain ⟨x3_2, x4_2, x6_2, x7_2, rfl, rfl, rfl, HA, HK2, HO_3, BK332, HB⟩ := hrel; cases gk with
     | zero => exact absurd HA.out (by simp [bulletinref15_Lines.l0])
     | succ k2 =>
      have H := HA.out; clear HA; simp only [bulletinref15_Lines.l0] at H
      by_cases c9 : x7_2 < (x5_2.size : Int)
      ·rw [if_pos c9] at H; have c9b0 : decide (x7_2 < (x5_2.size : Int)) = true := decide_eq_true c9; clear c9; have HC10 := Aside0.mk H; clear H
       go_upto_block 2 with (fail)
       go_cut [8] (fun v8 wc => ∃ (kq : Nat) (x8_9 : Int), v8 = .int .i64 x8_9 ∧ Aside0 (bulletinref15_Lines.j3 kq x3_2 x4_2 x5_2 x6_2 x7_2 x8_9 = some r) ∧ Aside0 (kq ≤ k2) ∧ Aside0 (Kd.R Kd.string 9 wc w.heap.size (fun _ => True) u3 x3_2) ∧ Aside0 (wc.heap[gb332]? = some (.cells #[.string a0_0, .string a0_1] 67 (0, 0))) ∧ Aside0 (Below w.heap.size w wc))
       case first =>
        have H := HC10.out; clear HC10; have H' := Aside0.mk H; clear H
        go_wp2
        go_loopg [8] k2 (fun kq v8 w' => ∃ (x8_3 : Int), v8 = .int .i64 x8_3 ∧ Aside0 (bulletinref15_Lines.l1 kq x3_2 x4_2 x5_2 x6_2 x7_2 x8_3 = some r) ∧ Aside0 (kq ≤ k2) ∧ Aside0 (Kd.R Kd.string 9 w' w.heap.size (fun _ => True) u3 x3_2) ∧ Aside0 (w'.heap[gb332]? = some (.cells #[.string a0_0, .string a0_1] 67 (0, 0))) ∧ Aside0 (Below w.heap.size w w'))
        case atStart => exact ⟨(x7_2), cl, H', ⟨Nat.le_refl _⟩, ⟨by (with_reducible repeat (first | apply Kd.R_alloc | apply Kd.R_drewN | apply Kd.R_drew)); exact HO_3.out⟩, ⟨bk⟩, ⟨bwS⟩⟩
        case round =>
         clear H'
         try clear c2
         try clear c2b0
         try clear c2b1
         try clear c2b2
         try clear p2
         try clear c6
         try clear c6b0
         try clear c6b1
         try clear c7
         try clear c7b0
         try clear c7b1
         try clear c7b2
         try clear c9
         try clear c9b0
         try clear hcz5_0
         try clear hcz5_1
         try clear hcz8_0
         try clear hcz8_1
         try clear hfz5_0
         try clear hfz5_1
         try clear hfz8_0
         try clear hfz8_1
         try clear p2
         obtain ⟨x8_3, rfl, HA, HK3, HO_3, BK332, HB⟩ := hrel; cases gk with
         | zero => exact absurd HA.out (by simp [bulletinref15_Lines.l1])
         | succ k3 =>
          have H := HA.out; clear HA; simp only [bulletinref15_Lines.l1] at H
          by_cases c11 : x8_3 < (x5_2.size : Int)
          ·rw [if_pos c11] at H; have c11b0 : decide (x8_3 < (x5_2.size : Int)) = true := decide_eq_true c11; clear c11
           (first | rw [c11b0] | (simp only [i64_w, i32_w]; rw [c11b0]) | skip)
           by_cases c12 : 0 ≤ x8_3
           ·rw [if_pos c12] at H; have c12b0 : decide (0 ≤ x8_3) = true := decide_eq_true c12; clear c12; replace H := Option.bind_eq_some_iff.mp H; obtain ⟨t336, A140, H⟩ := H; replace H : (if t336 = true then (bulletinref15_Lines.l1 k3 x3_2 x4_2 x5_2 x6_2 x7_2 (wrap64 (x8_3 + 1))) else (bulletinref15_Lines.j3 k3 x3_2 x4_2 x5_2 x6_2 x7_2 x8_3)) = some r := H; have A14 := Aside0.mk A140; clear A140
            by_cases c15 : t336 = true
            ·subst c15; have H1 : (bulletinref15_Lines.l1 k3 x3_2 x4_2 x5_2 x6_2 x7_2 (wrap64 (x8_3 + 1))) = some r := by rw [if_pos rfl] at H; exact H
             clear H; have H := H1; clear H1; have H' := Aside0.mk H; clear H; have p13 : 0 ≤ (x8_3 : Int) := od; have q13 : x8_3 < (x5_2.size : Int) := od; have hx13 := bt_at x5_2 x8_3; replace p13 := eq_true p13; replace q13 := eq_true q13
             go_wp2_with (first | (go_at_call 63; (with_reducible refine (bulletinref15_blank.calls (bt x5_2 x8_3) true _ A14.out).mono ?_); rintro e w' ⟨rfl, ⟨nd, rfl⟩⟩))
             go_roundg k3
             case measure => have := HJ2.out; have := HK2.out; have := HK3.out; omega
             case rel => exact ⟨(wrap64 (x8_3 + 1)), cl, H', ⟨by have := HJ2.out; have := HK2.out; have := HK3.out; omega⟩, ⟨by (with_reducible repeat (first | apply Kd.R_alloc | apply Kd.R_drewN | apply Kd.R_drew)); exact HO_3.out⟩, ⟨bk⟩, ⟨bwS⟩⟩
            ·replace c15 := Bool.eq_false_iff.mpr c15; subst c15; have H1 : (bulletinref15_Lines.j3 k3 x3_2 x4_2 x5_2 x6_2 x7_2 x8_3) = some r := by rw [if_neg (show ¬ (false = true) by decide)] at H; exact H
             clear H; have H := H1; clear H1; have H' := Aside0.mk H; clear H; have p13 : 0 ≤ (x8_3 : Int) := od; have q13 : x8_3 < (x5_2.size : Int) := od; have hx13 := bt_at x5_2 x8_3; replace p13 := eq_true p13; replace q13 := eq_true q13
             go_wp2_with (first | (go_at_call 63; (with_reducible refine (bulletinref15_blank.calls (bt x5_2 x8_3) false _ A14.out).mono ?_); rintro e w' ⟨rfl, ⟨nd, rfl⟩⟩))
             go_meet
             case rel => exact ⟨_, (x8_3), cl, H', ⟨by have := HJ2.out; have := HK2.out; have := HK3.out; first | omega | exact Nat.le_refl _⟩, ⟨by (with_reducible repeat (first | apply Kd.R_alloc | apply Kd.R_drewN | apply Kd.R_drew)); exact HO_3.out⟩, ⟨bk⟩, ⟨bwS⟩⟩
           ·rw [if_neg c12] at H; exact absurd H (by simp)
          ·rw [if_neg c11] at H; have c11b0 : decide (x8_3 < (x5_2.size : Int)) = false := decide_eq_false c11; clear c11
           (first | rw [c11b0] | (simp only [i64_w, i32_w]; rw [c11b0]) | skip)
           have H' := Aside0.mk H; clear H
           go_wp2
           go_meet
           case rel => exact ⟨_, (x8_3), cl, H', ⟨by have := HJ2.out; have := HK2.out; have := HK3.out; first | omega | exact Nat.le_refl _⟩, ⟨by (with_reducible repeat (first | apply Kd.R_alloc | apply Kd.R_drewN | apply Kd.R_drew)); exact HO_3.out⟩, ⟨bk⟩, ⟨bwS⟩⟩
       case rest =>
        clear HC10
        try clear c1
        try clear p1
        try clear q1
        try clear hx1
        try clear c2
        try clear c2b0
        try clear c2b1
        try clear c2b2
        try clear p2
        try clear c6
        try clear c6b0
        try clear c6b1
        try clear p6
        try clear c7
        try clear c7b0
        try clear c7b1
        try clear c7b2
        try clear c9
        try clear c9b0
        try clear c11
        try clear c11b0
        try clear c12
        try clear c12b0
        try clear p13
        try clear q13
        try clear hx13
        try clear c15
        try clear hcz5_0
        try clear hcz5_1
        try clear hcz8_0
        try clear hcz8_1
        try clear hfz5_0
        try clear hfz5_1
        try clear hfz8_0
        try clear hfz8_1
        try clear p13
        try clear p2
        try clear q13
        obtain ⟨kq, x8_9, rfl, HA, HJ9, HO_3, BK332, HB⟩ := hcut; cases kq with
        | zero => exact absurd HA.out (by simp [bulletinref15_Lines.j3])
        | succ kj9 =>
         have H := HA.out; clear HA; simp only [bulletinref15_Lines.j3] at H; have H' := Aside0.mk H; clear H
         go_wp2
         go_loopg [8] kj9 (fun kq v8 w' => ∃ (x8_4 : Int), v8 = .int .i64 x8_4 ∧ Aside0 (bulletinref15_Lines.l2 kq x3_2 x4_2 x5_2 x6_2 x7_2 x8_4 = some r) ∧ Aside0 (kq ≤ kj9) ∧ Aside0 (Kd.R Kd.string 9 w' w.heap.size (fun _ => True) u3 x3_2) ∧ Aside0 (w'.heap[gb332]? = some (.cells #[.string a0_0, .string a0_1] 67 (0, 0))) ∧ Aside0 (Below w.heap.size w w'))
         case atStart => exact ⟨(x8_9), cl, H', ⟨Nat.le_refl _⟩, ⟨by (with_reducible repeat (first | apply Kd.R_alloc | apply Kd.R_drewN | apply Kd.R_drew)); exact HO_3.out⟩, ⟨bk⟩, ⟨bwS⟩⟩
         case round =>
          clear H'
          try clear c1
          try clear p1
          try clear q1
          try clear hx1
          try clear c2
          try clear c2b0
          try clear c2b1
          try clear c2b2
          try clear p2
          try clear c6
          try clear c6b0
          try clear c6b1
          try clear p6
          try clear c7
          try clear c7b0
          try clear c7b1
          try clear c7b2
          try clear c9
          try clear c9b0
          try clear c11
          try clear c11b0
          try clear c12
          try clear c12b0
          try clear p13
          try clear q13
          try clear hx13
          try clear c15
          try clear hcz5_0
          try clear hcz5_1
          try clear hcz8_0
          try clear hcz8_1
          try clear hfz5_0
          try clear hfz5_1
          try clear hfz8_0
          try clear hfz8_1
          try clear p1
          try clear p13
          try clear p2
          try clear p6
          try clear q1
          try clear q13
          obtain ⟨x8_4, rfl, HA, HK4, HO_3, BK332, HB⟩ := hrel; cases gk with
          | zero => exact absurd HA.out (by simp [bulletinref15_Lines.l2])
          | succ k4 =>
           have H := HA.out; clear HA; simp only [bulletinref15_Lines.l2] at H
           by_cases c16 : x8_4 < (x5_2.size : Int)
           ·rw [if_pos c16] at H; have c16b0 : decide (x8_4 < (x5_2.size : Int)) = true := decide_eq_true c16; clear c16
            by_cases c17 : 0 ≤ x8_4
            ·rw [if_pos c17] at H; have c17b0 : decide (0 ≤ x8_4) = true := decide_eq_true c17; clear c17; replace H := Option.bind_eq_some_iff.mp H; obtain ⟨t337, A190, H⟩ := H; replace H : (if t337 = true then (if x6_2 = true then (if 0 ≤ x7_2 then (if x7_2 ≤ x8_4 then (if x8_4 ≤ (x5_2.size : Int) then (if x4_2.size + (x5_2.extract (x7_2 : Int).toNat (x8_4 : Int).toNat).size ≤ 9223372036854775807 then (bulletinref15_Lines.l0 k4 x3_2 (x4_2 ++ (x5_2.extract (x7_2 : Int).toNat (x8_4 : Int).toNat)) x5_2 false x8_4) else (none)) else (none)) else (none)) else (none)) else (if (wrap64 ((wrap64 ((x4_2.size : Int) + x8_4)) - x7_2)) > 78 then (if x3_2.length < 8796093022208 then (if 0 ≤ x7_2 then (if x7_2 ≤ x8_4 then (if x8_4 ≤ (x5_2.size : Int) then (if 0 + (x5_2.extract (x7_2 : Int).toNat (x8_4 : Int).toNat).size ≤ 9223372036854775807 then (bulletinref15_Lines.l0 k4 (x3_2 ++ [x4_2]) ((⟨#[]⟩ : ByteArray) ++ (x5_2.extract (x7_2 : Int).toNat (x8_4 : Int).toNat)) x5_2 false x8_4) else (none)) else (none)) else (none)) else (none)) else (none)) else (if 0 ≤ x7_2 then (if x7_2 ≤ x8_4 then (if x8_4 ≤ (x5_2.size : Int) then (if x4_2.size + (x5_2.extract (x7_2 : Int).toNat (x8_4 : Int).toNat).size ≤ 9223372036854775807 then (bulletinref15_Lines.l0 k4 x3_2 (x4_2 ++ (x5_2.extract (x7_2 : Int).toNat (x8_4 : Int).toNat)) x5_2 false x8_4) else (none)) else (none)) else (none)) else (none)))) else (bulletinref15_Lines.l2 k4 x3_2 x4_2 x5_2 x6_2 x7_2 (wrap64 (x8_4 + 1)))) = some r := H; have A19 := Aside0.mk A190; clear A190
             by_cases c20 : t337 = true
             ·subst c20; have H1 : (if x6_2 = true then (if 0 ≤ x7_2 then (if x7_2 ≤ x8_4 then (if x8_4 ≤ (x5_2.size : Int) then (if x4_2.size + (x5_2.extract (x7_2 : Int).toNat (x8_4 : Int).toNat).size ≤ 9223372036854775807 then (bulletinref15_Lines.l0 k4 x3_2 (x4_2 ++ (x5_2.extract (x7_2 : Int).toNat (x8_4 : Int).toNat)) x5_2 false x8_4) else (none)) else (none)) else (none)) else (none)) else (if (wrap64 ((wrap64 ((x4_2.size : Int) + x8_4)) - x7_2)) > 78 then (if x3_2.length < 8796093022208 then (if 0 ≤ x7_2 then (if x7_2 ≤ x8_4 then (if x8_4 ≤ (x5_2.size : Int) then (if 0 + (x5_2.extract (x7_2 : Int).toNat (x8_4 : Int).toNat).size ≤ 9223372036854775807 then (bulletinref15_Lines.l0 k4 (x3_2 ++ [x4_2]) ((⟨#[]⟩ : ByteArray) ++ (x5_2.extract (x7_2 : Int).toNat (x8_4 : Int).toNat)) x5_2 false x8_4) else (none)) else (none)) else (none)) else (none)) else (none)) else (if 0 ≤ x7_2 then (if x7_2 ≤ x8_4 then (if x8_4 ≤ (x5_2.size : Int) then (if x4_2.size + (x5_2.extract (x7_2 : Int).toNat (x8_4 : Int).toNat).size ≤ 9223372036854775807 then (bulletinref15_Lines.l0 k4 x3_2 (x4_2 ++ (x5_2.extract (x7_2 : Int).toNat (x8_4 : Int).toNat)) x5_2 false x8_4) else (none)) else (none)) else (none)) else (none)))) = some r := by rw [if_pos rfl] at H; exact H
              clear H; have H := H1; clear H1
              by_cases c21 : x6_2 = true
              ·subst c21; have H1 : (if 0 ≤ x7_2 then (if x7_2 ≤ x8_4 then (if x8_4 ≤ (x5_2.size : Int) then (if x4_2.size + (x5_2.extract (x7_2 : Int).toNat (x8_4 : Int).toNat).size ≤ 9223372036854775807 then (bulletinref15_Lines.l0 k4 x3_2 (x4_2 ++ (x5_2.extract (x7_2 : Int).toNat (x8_4 : Int).toNat)) x5_2 false x8_4) else (none)) else (none)) else (none)) else (none)) = some r := by rw [if_pos rfl] at H; exact H
               clear H; have H := H1; clear H1
               by_cases c22 : 0 ≤ x7_2
               ·rw [if_pos c22] at H; have c22b0 := eq_true c22; have c22b1 : decide (0 ≤ x7_2) = true := decide_eq_true c22; clear c22
                by_cases c23 : x7_2 ≤ x8_4
                ·rw [if_pos c23] at H; have c23b0 := eq_true c23; have c23b1 : decide (x7_2 ≤ x8_4) = true := decide_eq_true c23; clear c23
                 by_cases c24 : x8_4 ≤ (x5_2.size : Int)
                 ·rw [if_pos c24] at H; have c24b0 := eq_true c24; have c24b1 : decide (x8_4 ≤ (x5_2.size : Int)) = true := decide_eq_true c24; clear c24
                  by_cases c25 : x4_2.size + (x5_2.extract (x7_2 : Int).toNat (x8_4 : Int).toNat).size ≤ 9223372036854775807
                  ·rw [if_pos c25] at H; have c25b0 := eq_true c25; have c25b1 : decide (x4_2.size + (x5_2.extract (x7_2 : Int).toNat (x8_4 : Int).toNat).size ≤ 9223372036854775807) = true := decide_eq_true c25
                   try have c25b2 : (9223372036854775807 < x4_2.size + (x5_2.extract (x7_2 : Int).toNat (x8_4 : Int).toNat).size) = False := eq_false (Nat.not_lt.2 c25)
                   try (have c25b3 := c25; simp only [ByteArray.size_append, size_lit, ByteArray.size_extract, List.size_toArray, List.length_cons, List.length_nil, Nat.zero_add, Nat.reduceAdd] at c25b3; have c25b4 := eq_false (Nat.not_lt.2 c25b3))
                   have H' := Aside0.mk H; clear H; have p18 : 0 ≤ (x8_4 : Int) := od; have q18 : x8_4 < (x5_2.size : Int) := od; have hx18 := bt_at x5_2 x8_4; replace p18 := eq_true p18; replace q18 := eq_true q18
                   go_wp2_with (first | (go_at_call 63; (with_reducible refine (bulletinref15_blank.calls (bt x5_2 x8_4) true _ A19.out).mono ?_); rintro e w' ⟨rfl, ⟨nd, rfl⟩⟩))
                   go_roundg k4
                   case measure => have := HJ2.out; have := HK2.out; have := HJ9.out; have := HK4.out; omega
                   case rel => exact ⟨(x3_2), (x4_2 ++ (x5_2.extract (x7_2 : Int).toNat (x8_4 : Int).toNat)), (false), (x8_4), cl, cl, cl, H', ⟨by have := HJ2.out; have := HK2.out; have := HJ9.out; have := HK4.out; omega⟩, ⟨by (with_reducible repeat (first | apply Kd.R_alloc | apply Kd.R_drewN | apply Kd.R_drew)); exact HO_3.out⟩, ⟨bk⟩, ⟨bwS⟩⟩
                  ·rw [if_neg c25] at H; exact absurd H (by simp)
                 ·rw [if_neg c24] at H; exact absurd H (by simp)
                ·rw [if_neg c23] at H; exact absurd H (by simp)
               ·rw [if_neg c22] at H; exact absurd H (by simp)
              ·replace c21 := Bool.eq_false_iff.mpr c21; subst c21; have H1 : (if (wrap64 ((wrap64 ((x4_2.size : Int) + x8_4)) - x7_2)) > 78 then (if x3_2.length < 8796093022208 then (if 0 ≤ x7_2 then (if x7_2 ≤ x8_4 then (if x8_4 ≤ (x5_2.size : Int) then (if 0 + (x5_2.extract (x7_2 : Int).toNat (x8_4 : Int).toNat).size ≤ 9223372036854775807 then (bulletinref15_Lines.l0 k4 (x3_2 ++ [x4_2]) ((⟨#[]⟩ : ByteArray) ++ (x5_2.extract (x7_2 : Int).toNat (x8_4 : Int).toNat)) x5_2 false x8_4) else (none)) else (none)) else (none)) else (none)) else (none)) else (if 0 ≤ x7_2 then (if x7_2 ≤ x8_4 then (if x8_4 ≤ (x5_2.size : Int) then (if x4_2.size + (x5_2.extract (x7_2 : Int).toNat (x8_4 : Int).toNat).size ≤ 9223372036854775807 then (bulletinref15_Lines.l0 k4 x3_2 (x4_2 ++ (x5_2.extract (x7_2 : Int).toNat (x8_4 : Int).toNat)) x5_2 false x8_4) else (none)) else (none)) else (none)) else (none))) = some r := by rw [if_neg (show ¬ (false = true) by decide)] at H; exact H
               clear H; have H := H1; clear H1
               by_cases c26 : (wrap64 ((wrap64 ((x4_2.size : Int) + x8_4)) - x7_2)) > 78
               ·rw [if_pos c26] at H; have c26b0 : decide (78 < (wrap64 ((wrap64 ((x4_2.size : Int) + x8_4)) - x7_2))) = true := decide_eq_true c26; clear c26
                by_cases c27 : x3_2.length < 8796093022208
                ·rw [if_pos c27] at H; have LMc27 := Aside0.mk c27; clear c27; obtain ⟨y338, hy338⟩ : ∃ y_ : List ByteArray, y_ = (x3_2 ++ [x4_2]) := ⟨_, rfl⟩
                 replace H : (if 0 ≤ x7_2 then (if x7_2 ≤ x8_4 then (if x8_4 ≤ (x5_2.size : Int) then (if 0 + (x5_2.extract (x7_2 : Int).toNat (x8_4 : Int).toNat).size ≤ 9223372036854775807 then (bulletinref15_Lines.l0 k4 y338 ((⟨#[]⟩ : ByteArray) ++ (x5_2.extract (x7_2 : Int).toNat (x8_4 : Int).toNat)) x5_2 false x8_4) else (none)) else (none)) else (none)) else (none)) = some r := by first | (rw [hy338]; with_reducible exact H) | (have H2_ := (Option.bind_some _ _).symm.trans H; rw [hy338]; with_reducible exact H2_) | (have H2_ := (Option.bind_some _ _).symm.trans H; with_reducible exact H2_) | with_reducible exact H | (rw [hy338]; exact H) | exact H
                 have Ny338 := Aside0.mk hy338; clear hy338
                 by_cases c28 : 0 ≤ x7_2
                 ·rw [if_pos c28] at H; have c28b0 := eq_true c28; have c28b1 : decide (0 ≤ x7_2) = true := decide_eq_true c28; clear c28
                  by_cases c29 : x7_2 ≤ x8_4
                  ·rw [if_pos c29] at H; have c29b0 := eq_true c29; have c29b1 : decide (x7_2 ≤ x8_4) = true := decide_eq_true c29; clear c29
                   by_cases c30 : x8_4 ≤ (x5_2.size : Int)
                   ·rw [if_pos c30] at H; have c30b0 := eq_true c30; have c30b1 : decide (x8_4 ≤ (x5_2.size : Int)) = true := decide_eq_true c30; clear c30
                    by_cases c31 : 0 + (x5_2.extract (x7_2 : Int).toNat (x8_4 : Int).toNat).size ≤ 9223372036854775807
                    ·rw [if_pos c31] at H; have c31b0 := eq_true c31; have c31b1 : decide (0 + (x5_2.extract (x7_2 : Int).toNat (x8_4 : Int).toNat).size ≤ 9223372036854775807) = true := decide_eq_true c31
                     try have c31b2 : (9223372036854775807 < 0 + (x5_2.extract (x7_2 : Int).toNat (x8_4 : Int).toNat).size) = False := eq_false (Nat.not_lt.2 c31)
                     try (have c31b3 := c31; simp only [ByteArray.size_append, size_lit, ByteArray.size_extract, List.size_toArray, List.length_cons, List.length_nil, Nat.zero_add, Nat.reduceAdd] at c31b3; have c31b4 := eq_false (Nat.not_lt.2 c31b3))
                     (try have c31b7 : (9223372036854775807 < (x8_4 : Int).toNat - (x7_2 : Int).toNat) = False := eq_false (fun q_ => absurd c31 (by rw [ByteArray.size_extract]; have e_ : (x8_4 ≤ (x5_2.size : Int)) := of_decide_eq_true (by assumption); omega)))
                     have H' := Aside0.mk H; clear H; have p18 : 0 ≤ (x8_4 : Int) := od; have q18 : x8_4 < (x5_2.size : Int) := od; have hx18 := bt_at x5_2 x8_4; replace p18 := eq_true p18; replace q18 := eq_true q18
                     go_wp2_with (first | (go_at_call 63; (with_reducible refine (bulletinref15_blank.calls (bt x5_2 x8_4) true _ A19.out).mono ?_); rintro e w' ⟨rfl, ⟨nd, rfl⟩⟩) | ((with_reducible refine gate_builtin (b := .append) (xs := #[.tmp 59, .tmp 61]) rfl ?_); (try (refine gate_guard (by rfl) ?_; dsimp only)); at_builtin; refine Kd.R_append Kd.string (w0 := w) w.heap.size rfl (.tmp 59) (.tmp 61) 39 9 (.string ⟨#[]⟩) 16 rfl Tryz.underlying39 info9 rfl (by decide) (by omega) u3 x3_2 x4_2 [.string x4_2] (fun _ => True) (fun _ => False) rfl rfl ?aP (fun _ hk => hk.elim) ?aF ?aO ?aB ?aS ?aL ?_; (case aP => exact rfl); (case aB => exact bwS); (case aF => exact (fun _ _ => trivial)); (case aO => exact (ra HO_3.out)); (case aS => exact (below_size bwS)); (case aL => have := LMc27.out; omega); intro v339 w32 ho hb hg hat; rw [← Ny338.out] at ho; have n0_ := Aside0.mk (blk_grown (g := gb332) (o := .cells #[.string a0_0, .string a0_1] 67 (0, 0)) bk hg (Kd.R_ne HO_3.out BK332.out (by decide))); have n1_ := Aside0.mk (hb); have n2_ := Aside0.mk (ho); clear BK332; clear HB; clear HO_3; have BK332 := n0_; have HB := n1_; have HO340 := n2_; clear n0_ n1_ n2_; clear ho hb hg hat))
                     go_roundg k4
                     case measure => have := HJ2.out; have := HK2.out; have := HJ9.out; have := HK4.out; omega
                     case rel => exact ⟨(y338), ((⟨#[]⟩ : ByteArray) ++ (x5_2.extract (x7_2 : Int).toNat (x8_4 : Int).toNat)), (false), (x8_4), cl, cl, cl, H', ⟨by have := HJ2.out; have := HK2.out; have := HJ9.out; have := HK4.out; omega⟩, ⟨by (with_reducible repeat (first | apply Kd.R_alloc | apply Kd.R_drewN | apply Kd.R_drew)); exact HO340.out⟩, ⟨bk⟩, ⟨bwS⟩⟩
                    ·rw [if_neg c31] at H; exact absurd H (by simp)
                   ·rw [if_neg c30] at H; exact absurd H (by simp)
                  ·rw [if_neg c29] at H; exact absurd H (by simp)
                 ·rw [if_neg c28] at H; exact absurd H (by simp)
                ·rw [if_neg c27] at H; exact absurd H (by simp)
               ·rw [if_neg c26] at H; have c26b0 : decide (78 < (wrap64 ((wrap64 ((x4_2.size : Int) + x8_4)) - x7_2))) = false := decide_eq_false c26; clear c26
                by_cases c33 : 0 ≤ x7_2
                ·rw [if_pos c33] at H; have c33b0 := eq_true c33; have c33b1 : decide (0 ≤ x7_2) = true := decide_eq_true c33; clear c33
                 by_cases c34 : x7_2 ≤ x8_4
                 ·rw [if_pos c34] at H; have c34b0 := eq_true c34; have c34b1 : decide (x7_2 ≤ x8_4) = true := decide_eq_true c34; clear c34
                  by_cases c35 : x8_4 ≤ (x5_2.size : Int)
                  ·rw [if_pos c35] at H; have c35b0 := eq_true c35; have c35b1 : decide (x8_4 ≤ (x5_2.size : Int)) = true := decide_eq_true c35; clear c35
                   by_cases c36 : x4_2.size + (x5_2.extract (x7_2 : Int).toNat (x8_4 : Int).toNat).size ≤ 9223372036854775807
                   ·rw [if_pos c36] at H; have c36b0 := eq_true c36; have c36b1 : decide (x4_2.size + (x5_2.extract (x7_2 : Int).toNat (x8_4 : Int).toNat).size ≤ 9223372036854775807) = true := decide_eq_true c36
                    try have c36b2 : (9223372036854775807 < x4_2.size + (x5_2.extract (x7_2 : Int).toNat (x8_4 : Int).toNat).size) = False := eq_false (Nat.not_lt.2 c36)
                    try (have c36b3 := c36; simp only [ByteArray.size_append, size_lit, ByteArray.size_extract, List.size_toArray, List.length_cons, List.length_nil, Nat.zero_add, Nat.reduceAdd] at c36b3; have c36b4 := eq_false (Nat.not_lt.2 c36b3))
                    have H' := Aside0.mk H; clear H; have p18 : 0 ≤ (x8_4 : Int) := od; have q18 : x8_4 < (x5_2.size : Int) := od; have hx18 := bt_at x5_2 x8_4; replace p18 := eq_true p18; replace q18 := eq_true q18
                    go_wp2_with (first | (go_at_call 63; (with_reducible refine (bulletinref15_blank.calls (bt x5_2 x8_4) true _ A19.out).mono ?_); rintro e w' ⟨rfl, ⟨nd, rfl⟩⟩))
                    go_roundg k4
                    case measure => have := HJ2.out; have := HK2.out; have := HJ9.out; have := HK4.out; omega
                    case rel => exact ⟨(x3_2), (x4_2 ++ (x5_2.extract (x7_2 : Int).toNat (x8_4 : Int).toNat)), (false), (x8_4), cl, cl, cl, H', ⟨by have := HJ2.out; have := HK2.out; have := HJ9.out; have := HK4.out; omega⟩, ⟨by (with_reducible repeat (first | apply Kd.R_alloc | apply Kd.R_drewN | apply Kd.R_drew)); exact HO_3.out⟩, ⟨bk⟩, ⟨bwS⟩⟩
                   ·rw [if_neg c36] at H; exact absurd H (by simp)
                  ·rw [if_neg c35] at H; exact absurd H (by simp)
                 ·rw [if_neg c34] at H; exact absurd H (by simp)
                ·rw [if_neg c33] at H; exact absurd H (by simp)
             ·replace c20 := Bool.eq_false_iff.mpr c20; subst c20; have H1 : (bulletinref15_Lines.l2 k4 x3_2 x4_2 x5_2 x6_2 x7_2 (wrap64 (x8_4 + 1))) = some r := by rw [if_neg (show ¬ (false = true) by decide)] at H; exact H
              clear H; have H := H1; clear H1; have H' := Aside0.mk H; clear H; have p18 : 0 ≤ (x8_4 : Int) := od; have q18 : x8_4 < (x5_2.size : Int) := od; have hx18 := bt_at x5_2 x8_4; replace p18 := eq_true p18; replace q18 := eq_true q18
              go_wp2_with (first | (go_at_call 63; (with_reducible refine (bulletinref15_blank.calls (bt x5_2 x8_4) false _ A19.out).mono ?_); rintro e w' ⟨rfl, ⟨nd, rfl⟩⟩))
              go_roundg k4
              case measure => have := HJ2.out; have := HK2.out; have := HJ9.out; have := HK4.out; omega
              case rel => exact ⟨(wrap64 (x8_4 + 1)), cl, H', ⟨by have := HJ2.out; have := HK2.out; have := HJ9.out; have := HK4.out; omega⟩, ⟨by (with_reducible repeat (first | apply Kd.R_alloc | apply Kd.R_drewN | apply Kd.R_drew)); exact HO_3.out⟩, ⟨bk⟩, ⟨bwS⟩⟩
            ·rw [if_neg c17] at H; exact absurd H (by simp)
           ·rw [if_neg c16] at H; have c16b0 : decide (x8_4 < (x5_2.size : Int)) = false := decide_eq_false c16; clear c16
            by_cases c37 : x6_2 = true
            ·subst c37; have H1 : (if 0 ≤ x7_2 then (if x7_2 ≤ x8_4 then (if x8_4 ≤ (x5_2.size : Int) then (if x4_2.size + (x5_2.extract (x7_2 : Int).toNat (x8_4 : Int).toNat).size ≤ 9223372036854775807 then (bulletinref15_Lines.l0 k4 x3_2 (x4_2 ++ (x5_2.extract (x7_2 : Int).toNat (x8_4 : Int).toNat)) x5_2 false x8_4) else (none)) else (none)) else (none)) else (none)) = some r := by rw [if_pos rfl] at H; exact H
             clear H; have H := H1; clear H1
             by_cases c38 : 0 ≤ x7_2
             ·rw [if_pos c38] at H; have c38b0 := eq_true c38; have c38b1 : decide (0 ≤ x7_2) = true := decide_eq_true c38; clear c38
              by_cases c39 : x7_2 ≤ x8_4
              ·rw [if_pos c39] at H; have c39b0 := eq_true c39; have c39b1 : decide (x7_2 ≤ x8_4) = true := decide_eq_true c39; clear c39
               by_cases c40 : x8_4 ≤ (x5_2.size : Int)
               ·rw [if_pos c40] at H; have c40b0 := eq_true c40; have c40b1 : decide (x8_4 ≤ (x5_2.size : Int)) = true := decide_eq_true c40; clear c40
                by_cases c41 : x4_2.size + (x5_2.extract (x7_2 : Int).toNat (x8_4 : Int).toNat).size ≤ 9223372036854775807
                ·rw [if_pos c41] at H; have c41b0 := eq_true c41; have c41b1 : decide (x4_2.size + (x5_2.extract (x7_2 : Int).toNat (x8_4 : Int).toNat).size ≤ 9223372036854775807) = true := decide_eq_true c41
                 try have c41b2 : (9223372036854775807 < x4_2.size + (x5_2.extract (x7_2 : Int).toNat (x8_4 : Int).toNat).size) = False := eq_false (Nat.not_lt.2 c41)
                 try (have c41b3 := c41; simp only [ByteArray.size_append, size_lit, ByteArray.size_extract, List.size_toArray, List.length_cons, List.length_nil, Nat.zero_add, Nat.reduceAdd] at c41b3; have c41b4 := eq_false (Nat.not_lt.2 c41b3))
                 have H' := Aside0.mk H; clear H
                 go_wp2
                 go_roundg k4
                 case measure => have := HJ2.out; have := HK2.out; have := HJ9.out; have := HK4.out; omega
                 case rel => exact ⟨(x3_2), (x4_2 ++ (x5_2.extract (x7_2 : Int).toNat (x8_4 : Int).toNat)), (false), (x8_4), cl, cl, cl, H', ⟨by have := HJ2.out; have := HK2.out; have := HJ9.out; have := HK4.out; omega⟩, ⟨by (with_reducible repeat (first | apply Kd.R_alloc | apply Kd.R_drewN | apply Kd.R_drew)); exact HO_3.out⟩, ⟨bk⟩, ⟨bwS⟩⟩
                ·rw [if_neg c41] at H; exact absurd H (by simp)
               ·rw [if_neg c40] at H; exact absurd H (by simp)
              ·rw [if_neg c39] at H; exact absurd H (by simp)
             ·rw [if_neg c38] at H; exact absurd H (by simp)
            ·replace c37 := Bool.eq_false_iff.mpr c37; subst c37; have H1 : (if (wrap64 ((wrap64 ((x4_2.size : Int) + x8_4)) - x7_2)) > 78 then (if x3_2.length < 8796093022208 then (if 0 ≤ x7_2 then (if x7_2 ≤ x8_4 then (if x8_4 ≤ (x5_2.size : Int) then (if 0 + (x5_2.extract (x7_2 : Int).toNat (x8_4 : Int).toNat).size ≤ 9223372036854775807 then (bulletinref15_Lines.l0 k4 (x3_2 ++ [x4_2]) ((⟨#[]⟩ : ByteArray) ++ (x5_2.extract (x7_2 : Int).toNat (x8_4 : Int).toNat)) x5_2 false x8_4) else (none)) else (none)) else (none)) else (none)) else (none)) else (if 0 ≤ x7_2 then (if x7_2 ≤ x8_4 then (if x8_4 ≤ (x5_2.size : Int) then (if x4_2.size + (x5_2.extract (x7_2 : Int).toNat (x8_4 : Int).toNat).size ≤ 9223372036854775807 then (bulletinref15_Lines.l0 k4 x3_2 (x4_2 ++ (x5_2.extract (x7_2 : Int).toNat (x8_4 : Int).toNat)) x5_2 false x8_4) else (none)) else (none)) else (none)) else (none))) = some r := by rw [if_neg (show ¬ (false = true) by decide)] at H; exact H
             clear H; have H := H1; clear H1
             by_cases c42 : (wrap64 ((wrap64 ((x4_2.size : Int) + x8_4)) - x7_2)) > 78
             ·rw [if_pos c42] at H; have c42b0 : decide (78 < (wrap64 ((wrap64 ((x4_2.size : Int) + x8_4)) - x7_2))) = true := decide_eq_true c42; clear c42
              by_cases c43 : x3_2.length < 8796093022208
              ·rw [if_pos c43] at H; have LMc43 := Aside0.mk c43; clear c43; obtain ⟨y341, hy341⟩ : ∃ y_ : List ByteArray, y_ = (x3_2 ++ [x4_2]) := ⟨_, rfl⟩
               replace H : (if 0 ≤ x7_2 then (if x7_2 ≤ x8_4 then (if x8_4 ≤ (x5_2.size : Int) then (if 0 + (x5_2.extract (x7_2 : Int).toNat (x8_4 : Int).toNat).size ≤ 9223372036854775807 then (bulletinref15_Lines.l0 k4 y341 ((⟨#[]⟩ : ByteArray) ++ (x5_2.extract (x7_2 : Int).toNat (x8_4 : Int).toNat)) x5_2 false x8_4) else (none)) else (none)) else (none)) else (none)) = some r := by first | (rw [hy341]; with_reducible exact H) | (have H2_ := (Option.bind_some _ _).symm.trans H; rw [hy341]; with_reducible exact H2_) | (have H2_ := (Option.bind_some _ _).symm.trans H; with_reducible exact H2_) | with_reducible exact H | (rw [hy341]; exact H) | exact H
               have Ny341 := Aside0.mk hy341; clear hy341
               by_cases c44 : 0 ≤ x7_2
               ·rw [if_pos c44] at H; have c44b0 := eq_true c44; have c44b1 : decide (0 ≤ x7_2) = true := decide_eq_true c44; clear c44
                by_cases c45 : x7_2 ≤ x8_4
                ·rw [if_pos c45] at H; have c45b0 := eq_true c45; have c45b1 : decide (x7_2 ≤ x8_4) = true := decide_eq_true c45; clear c45
                 by_cases c46 : x8_4 ≤ (x5_2.size : Int)
                 ·rw [if_pos c46] at H; have c46b0 := eq_true c46; have c46b1 : decide (x8_4 ≤ (x5_2.size : Int)) = true := decide_eq_true c46; clear c46
                  by_cases c47 : 0 + (x5_2.extract (x7_2 : Int).toNat (x8_4 : Int).toNat).size ≤ 9223372036854775807
                  ·rw [if_pos c47] at H; have c47b0 := eq_true c47; have c47b1 : decide (0 + (x5_2.extract (x7_2 : Int).toNat (x8_4 : Int).toNat).size ≤ 9223372036854775807) = true := decide_eq_true c47
                   try have c47b2 : (9223372036854775807 < 0 + (x5_2.extract (x7_2 : Int).toNat (x8_4 : Int).toNat).size) = False := eq_false (Nat.not_lt.2 c47)
                   try (have c47b3 := c47; simp only [ByteArray.size_append, size_lit, ByteArray.size_extract, List.size_toArray, List.length_cons, List.length_nil, Nat.zero_add, Nat.reduceAdd] at c47b3; have c47b4 := eq_false (Nat.not_lt.2 c47b3))
                   (try have c47b7 : (9223372036854775807 < (x8_4 : Int).toNat - (x7_2 : Int).toNat) = False := eq_false (fun q_ => absurd c47 (by rw [ByteArray.size_extract]; have e_ : (x8_4 ≤ (x5_2.size : Int)) := of_decide_eq_true (by assumption); omega)))
                   have H' := Aside0.mk H; clear H
                   go_wp2_with (first | ((with_reducible refine gate_builtin (b := .append) (xs := #[.tmp 59, .tmp 61]) rfl ?_); (try (refine gate_guard (by rfl) ?_; dsimp only)); at_builtin; refine Kd.R_append Kd.string (w0 := w) w.heap.size rfl (.tmp 59) (.tmp 61) 39 9 (.string ⟨#[]⟩) 16 rfl Tryz.underlying39 info9 rfl (by decide) (by omega) u3 x3_2 x4_2 [.string x4_2] (fun _ => True) (fun _ => False) rfl rfl ?aP (fun _ hk => hk.elim) ?aF ?aO ?aB ?aS ?aL ?_; (case aP => exact rfl); (case aB => exact bwS); (case aF => exact (fun _ _ => trivial)); (case aO => exact (ra HO_3.out)); (case aS => exact (below_size bwS)); (case aL => have := LMc43.out; omega); intro v342 w48 ho hb hg hat; rw [← Ny341.out] at ho; have n0_ := Aside0.mk (blk_grown (g := gb332) (o := .cells #[.string a0_0, .string a0_1] 67 (0, 0)) bk hg (Kd.R_ne HO_3.out BK332.out (by decide))); have n1_ := Aside0.mk (hb); have n2_ := Aside0.mk (ho); clear BK332; clear HB; clear HO_3; have BK332 := n0_; have HB := n1_; have HO343 := n2_; clear n0_ n1_ n2_; clear ho hb hg hat))
                   go_roundg k4
                   case measure => have := HJ2.out; have := HK2.out; have := HJ9.out; have := HK4.out; omega
                   case rel => exact ⟨(y341), ((⟨#[]⟩ : ByteArray) ++ (x5_2.extract (x7_2 : Int).toNat (x8_4 : Int).toNat)), (false), (x8_4), cl, cl, cl, H', ⟨by have := HJ2.out; have := HK2.out; have := HJ9.out; have := HK4.out; omega⟩, ⟨by (with_reducible repeat (first | apply Kd.R_alloc | apply Kd.R_drewN | apply Kd.R_drew)); exact HO343.out⟩, ⟨bk⟩, ⟨bwS⟩⟩
                  ·rw [if_neg c47] at H; exact absurd H (by simp)
                 ·rw [if_neg c46] at H; exact absurd H (by simp)
                ·rw [if_neg c45] at H; exact absurd H (by simp)
               ·rw [if_neg c44] at H; exact absurd H (by simp)
              ·rw [if_neg c43] at H; exact absurd H (by simp)
             ·rw [if_neg c42] at H; have c42b0 : decide (78 < (wrap64 ((wrap64 ((x4_2.size : Int) + x8_4)) - x7_2))) = false := decide_eq_false c42; clear c42
              by_cases c49 : 0 ≤ x7_2
              ·rw [if_pos c49] at H; have c49b0 := eq_true c49; have c49b1 : decide (0 ≤ x7_2) = true := decide_eq_true c49; clear c49
               by_cases c50 : x7_2 ≤ x8_4
               ·rw [if_pos c50] at H; have c50b0 := eq_true c50; have c50b1 : decide (x7_2 ≤ x8_4) = true := decide_eq_true c50; clear c50
                by_cases c51 : x8_4 ≤ (x5_2.size : Int)
                ·rw [if_pos c51] at H; have c51b0 := eq_true c51; have c51b1 : decide (x8_4 ≤ (x5_2.size : Int)) = true := decide_eq_true c51; clear c51
                 by_cases c52 : x4_2.size + (x5_2.extract (x7_2 : Int).toNat (x8_4 : Int).toNat).size ≤ 9223372036854775807
                 ·rw [if_pos c52] at H; have c52b0 := eq_true c52; have c52b1 : decide (x4_2.size + (x5_2.extract (x7_2 : Int).toNat (x8_4 : Int).toNat).size ≤ 9223372036854775807) = true := decide_eq_true c52
                  try have c52b2 : (9223372036854775807 < x4_2.size + (x5_2.extract (x7_2 : Int).toNat (x8_4 : Int).toNat).size) = False := eq_false (Nat.not_lt.2 c52)
                  try (have c52b3 := c52; simp only [ByteArray.size_append, size_lit, ByteArray.size_extract, List.size_toArray, List.length_cons, List.length_nil, Nat.zero_add, Nat.reduceAdd] at c52b3; have c52b4 := eq_false (Nat.not_lt.2 c52b3))
                  have H' := Aside0.mk H; clear H
                  go_wp2
                  go_roundg k4
                  case measure => have := HJ2.out; have := HK2.out; have := HJ9.out; have := HK4.out; omega
                  case rel => exact ⟨(x3_2), (x4_2 ++ (x5_2.extract (x7_2 : Int).toNat (x8_4 : Int).toNat)), (false), (x8_4), cl, cl, cl, H', ⟨by have := HJ2.out; have := HK2.out; have := HJ9.out; have := HK4.out; omega⟩, ⟨by (with_reducible repeat (first | apply Kd.R_alloc | apply Kd.R_drewN | apply Kd.R_drew)); exact HO_3.out⟩, ⟨bk⟩, ⟨bwS⟩⟩
                 ·rw [if_neg c52] at H; exact absurd H (by simp)
                ·rw [if_neg c51] at H; exact absurd H (by simp)
               ·rw [if_neg c50] at H; exact absurd H (by simp)
              ·rw [if_neg c49] at H; exact absurd H (by simp)
      ·rw [if_neg c9] at H; have c9b0 : decide (x7_2 < (x5_2.size : Int)) = false := decide_eq_false c9; clear c9
       by_cases c53 : x3_2.length < 8796093022208
       ·rw [if_pos c53] at H; have LMc53 := Aside0.mk c53; clear c53; obtain ⟨y333, hy333⟩ : ∃ y_ : List ByteArray, y_ = (x3_2 ++ [x4_2]) := ⟨_, rfl⟩
        replace H : (some y333) = some r := by first | (rw [hy333]; with_reducible exact H) | (have H2_ := (Option.bind_some _ _).symm.trans H; rw [hy333]; with_reducible exact H2_) | (have H2_ := (Option.bind_some _ _).symm.trans H; with_reducible exact H2_) | with_reducible exact H | (rw [hy333]; exact H) | exact H
        have Ny333 := Aside0.mk hy333; clear hy333; obtain rfl := Option.some.inj H
        go_wp2_with (first | ((with_reducible refine gate_builtin (b := .append) (xs := #[.tmp 70, .tmp 72]) rfl ?_); (try (refine gate_guard (by rfl) ?_; dsimp only)); at_builtin; refine Kd.R_append Kd.string (w0 := w) w.heap.size rfl (.tmp 70) (.tmp 72) 39 9 (.string ⟨#[]⟩) 16 rfl Tryz.underlying39 info9 rfl (by decide) (by omega) u3 x3_2 x4_2 [.string x4_2] (fun _ => True) (fun _ => False) rfl rfl ?aP (fun _ hk => hk.elim) ?aF ?aO ?aB ?aS ?aL ?_; (case aP => exact rfl); (case aB => exact bwS); (case aF => exact (fun _ _ => trivial)); (case aO => exact (ra HO_3.out)); (case aS => exact (below_size bwS)); (case aL => have := LMc53.out; omega); intro v334 w54 ho hb hg hat; rw [← Ny333.out] at ho; have n0_ := Aside0.mk (blk_grown (g := gb332) (o := .cells #[.string a0_0, .string a0_1] 67 (0, 0)) bk hg (Kd.R_ne HO_3.out BK332.out (by decide))); have n1_ := Aside0.mk (hb); have n2_ := Aside0.mk (ho); clear BK332; clear HB; clear HO_3; have BK332 := n0_; have HB := n1_; have HO335 := n2_; clear n0_ n1_ n2_; clear ho hb hg hat))
        go_ret
        exact ⟨_, ew, by (with_reducible repeat (first | apply Kd.R_alloc | apply Kd.R_drewN | apply Kd.R_drew)); exact HO335.out, bwS⟩
       ·rw [if_neg c53] at H; exact absurd H (by simp)
 ·rw [if_neg c2] at H; exact absurd H (by simp)

end Go.Proofs.YtbjbpgmjijeppaaGreatDoor.Fn
namespace Go.Proofs.YtbjbpgmjijeppaaGreatDoor.Fn
open Go.RowKit Go.Proofs.YtbjbpgmjijeppaaGreatDoorW.PrintWords Go.Proofs.YtbjbpgmjijeppaaGreatDoorW.PrintLast Go.Proofs.YtbjbpgmjijeppaaGreatDoorW.PrintMore
attribute [local go_sem] max2_int min2_int max_two min_two max_three min_three max_four min_four
set_option linter.unusedVariables false
set_option linter.unusedSimpArgs false

def bulletinref15_Show.l0 : Nat → List ByteArray → ByteArray → Int → Option (ByteArray)
 | 0, _, _, _ => none
 | k + 1, x3, x4, x5 => if x5 < (x3.length : Int) then (if 0 ≤ x5 then (if x4.size + (rdOf ByteArray.empty x3 x5).size ≤ 9223372036854775807 then (if (x4 ++ (rdOf ByteArray.empty x3 x5)).size + 2 ≤ 9223372036854775807 then (bulletinref15_Show.l0 k x3 ((x4 ++ (rdOf ByteArray.empty x3 x5)) ++ (⟨#[13, 10]⟩ : ByteArray)) (wrap64 (x5 + 1))) else (none)) else (none)) else (none)) else (some x4)
def bulletinref15_Show.f (k : Nat) (a0_0 : ByteArray) (a0_1 : ByteArray) : Option (ByteArray) := (bulletinref15_Lines.f k a0_0 a0_1).bind fun t345 => (bulletinref15_Show.l0 k t345 (⟨#[]⟩ : ByteArray) 0)
set_option maxHeartbeats 8000000 in
set_option maxRecDepth 100000 in
theorem bulletinref15_Show.calls (k : Nat) (a0_0 : ByteArray) (a0_1 : ByteArray) (r : ByteArray) (w : World) (h : bulletinref15_Show.f k a0_0 a0_1 = some r) :
  Calls Tryz.prog 68 #[.agg #[.string a0_0, .string a0_1]] w fun e w' => e = .returned (.string r) ∧ Below w.heap.size w w' := by
 have hu67 := Tryz.underlying67; have HB := Aside0.mk (Below.refl w.heap.size w); have H : ((bulletinref15_Lines.f k a0_0 a0_1).bind fun t345 => (bulletinref15_Show.l0 k t345 (⟨#[]⟩ : ByteArray) 0)) = some r := h; clear h; replace H := Option.bind_eq_some_iff.mp H; obtain ⟨t345, A20, H⟩ := H; replace H : (bulletinref15_Show.l0 k t345 (⟨#[]⟩ : ByteArray) 0) = some r := H; have A2 := Aside0.mk A20; clear A20; have H' := Aside0.mk H; clear H
 go_enter Tryz.func68, Tryz.ntmps68
 go_wp2_with (first | ((with_reducible refine gate_dst (N := 1) rfl ?_); refine box_event ?hg (N := 1) ?hd (cs := #[.string a0_0, .string a0_1]) (t := 67) ?hr ?_; (case hd => rfl); (case hg => rfl); (case hr => first | (go_simp; done) | (go_simp; rfl)); intro gb344 hg w3 hbox hb; have n0_ := Aside0.mk (below_step bw hb); have n1_ := Aside0.mk (hbox); have n2_ := Aside0.mk ((by rw [hg]; exact (below_size bw) : w.heap.size ≤ gb344)); have n3_ := Aside0.mk ((by rw [hg]; exact (below_size bw) : w.heap.size ≤ gb344)); clear HB; have HB := n0_; have BK344 := n1_; have GW344 := n2_; have GE344 := n3_; clear n0_ n1_ n2_ n3_; clear hb hbox hg; have hcz4_0 : w3.cell? ⟨gb344, 0, none⟩ = some (.string a0_0) := (blk_cell BK344.out 0).trans rfl; have hcz4_1 : w3.cell? ⟨gb344, 1, none⟩ = some (.string a0_1) := (blk_cell BK344.out 1).trans rfl; have hfz4_0 := blk_frozen BK344.out 0; have hfz4_1 := blk_frozen BK344.out 1) | ((with_reducible refine gate_callee (f := 91) rfl ?_); refine goesL_ (some 7) rfl rfl Tryz.func91 (by kernel_rfl) rfl #[.agg #[.string a0_0, .string a0_1]] rfl am ?_; (with_reducible refine (bulletinref15_Lines.calls k a0_0 a0_1 t345 _ A2.out).mono ?_); rintro e w5 ⟨v346, rfl, ho0, hb⟩; refine ⟨_, rfl, ?_⟩; have n0_ := Aside0.mk (Kd.R_lower ho0 (below_size bwS)); have n1_ := Aside0.mk (blk_below (g := gb344) (o := .cells #[.string a0_0, .string a0_1] 67 (0, 0)) bk hb); have n2_ := Aside0.mk (below_step bwS hb); clear BK344; clear HB; have HO347 := n0_; have BK344 := n1_; have HB := n2_; clear n0_ n1_ n2_; (try clear hb); (try clear hb2); (try clear hk); (try clear hi); (try clear ho0)))
 go_loopg [4, 5] k (fun kq v4 v5 w' => ∃ (x4_1 : ByteArray) (x5_1 : Int), v4 = .string x4_1 ∧ v5 = .int .i64 x5_1 ∧ Aside0 (bulletinref15_Show.l0 kq t345 x4_1 x5_1 = some r) ∧ Aside0 (kq ≤ k) ∧ Aside0 (Kd.R Kd.string 9 w' w.heap.size (fun _ => True) v346 t345) ∧ Aside0 (w'.heap[gb344]? = some (.cells #[.string a0_0, .string a0_1] 67 (0, 0))) ∧ Aside0 (Below w.heap.size w w'))
 case atStart => exact ⟨((⟨#[]⟩ : ByteArray)), (0), cl, cl, H', ⟨Nat.le_refl _⟩, ⟨by (with_reducible repeat (first | apply Kd.R_alloc | apply Kd.R_drewN | apply Kd.R_drew)); exact HO347.out⟩, ⟨bk⟩, ⟨bwS⟩⟩
 case round =>
  clear H'
  try clear p2
  try clear hcz4_0
  try clear hcz4_1
  try clear hfz4_0
  try clear hfz4_1
  obtain ⟨x4_1, x5_1, rfl, rfl, HA, HK1, HO_3, BK344, HB⟩ := hrel; cases gk with
  | zero => exact absurd HA.out (by simp [bulletinref15_Show.l0])
  | succ k1 =>
   have H := HA.out; clear HA; simp only [bulletinref15_Show.l0] at H
   by_cases c6 : x5_1 < (t345.length : Int)
   ·rw [if_pos c6] at H; have c6b0 : decide (x5_1 < (t345.length : Int)) = true := decide_eq_true c6; clear c6
    by_cases c7 : 0 ≤ x5_1
    ·rw [if_pos c7] at H; have c7b0 : decide (0 ≤ x5_1) = true := decide_eq_true c7; clear c7
     by_cases c8 : x4_1.size + (rdOf ByteArray.empty t345 x5_1).size ≤ 9223372036854775807
     ·rw [if_pos c8] at H; have c8b0 := eq_true c8; have c8b1 : decide (x4_1.size + (rdOf ByteArray.empty t345 x5_1).size ≤ 9223372036854775807) = true := decide_eq_true c8
      try have c8b2 : (9223372036854775807 < x4_1.size + (rdOf ByteArray.empty t345 x5_1).size) = False := eq_false (Nat.not_lt.2 c8)
      by_cases c9 : (x4_1 ++ (rdOf ByteArray.empty t345 x5_1)).size + 2 ≤ 9223372036854775807
      ·rw [if_pos c9] at H; have c9b0 := eq_true c9; have c9b1 : decide ((x4_1 ++ (rdOf ByteArray.empty t345 x5_1)).size + 2 ≤ 9223372036854775807) = true := decide_eq_true c9
       try have c9b2 : (9223372036854775807 < (x4_1 ++ (rdOf ByteArray.empty t345 x5_1)).size + 2) = False := eq_false (Nat.not_lt.2 c9)
       try (have c9b3 := c9; simp only [ByteArray.size_append, size_lit, ByteArray.size_extract, List.size_toArray, List.length_cons, List.length_nil, Nat.zero_add, Nat.reduceAdd] at c9b3; have c9b4 := eq_false (Nat.not_lt.2 c9b3))
       have H' := Aside0.mk H; clear H; obtain ⟨Ao10, co10, eo10⟩ := Kd.R_slice HO_3.out; subst eo10; have p348 : 0 ≤ (x5_1 : Int) := od; have q348 : x5_1 < (t345.length : Int) := od; obtain ⟨ad348, e348, hx348_0⟩ := Kd.at_string (Kd.R_reads' HO_3.out).2.2 x5_1 p348 q348; cases e348; replace p348 := eq_true p348; replace q348 := eq_true q348
       go_wp2
       go_roundg k1
       case measure => have := HK1.out; omega
       case rel => exact ⟨((x4_1 ++ (rdOf ByteArray.empty t345 x5_1)) ++ (⟨#[13, 10]⟩ : ByteArray)), (wrap64 (x5_1 + 1)), cl, cl, H', ⟨by have := HK1.out; omega⟩, ⟨by (with_reducible repeat (first | apply Kd.R_alloc | apply Kd.R_drewN | apply Kd.R_drew)); exact HO_3.out⟩, ⟨bk⟩, ⟨bwS⟩⟩
      ·rw [if_neg c9] at H; exact absurd H (by simp)
     ·rw [if_neg c8] at H; exact absurd H (by simp)
    ·rw [if_neg c7] at H; exact absurd H (by simp)
   ·rw [if_neg c6] at H; have c6b0 : decide (x5_1 < (t345.length : Int)) = false := decide_eq_false c6; clear c6; obtain rfl := Option.some.inj H; obtain ⟨Ao11, co11, eo11⟩ := Kd.R_slice HO_3.out; subst eo11
    go_wp2
    go_ret
    exact ⟨ew, bwS⟩

end Go.Proofs.YtbjbpgmjijeppaaGreatDoor.Fn
namespace Go.Proofs.YtbjbpgmjijeppaaGreatDoor.Fn
open Go.RowKit Go.Proofs.YtbjbpgmjijeppaaGreatDoorW.PrintWords Go.Proofs.YtbjbpgmjijeppaaGreatDoorW.PrintLast Go.Proofs.YtbjbpgmjijeppaaGreatDoorW.PrintMore
attribute [local go_sem] max2_int min2_int max_two min_two max_three min_three max_four min_four
set_option linter.unusedVariables false
set_option linter.unusedSimpArgs false

def bulletinref15_Print.l0 : Nat → List (S67) → ByteArray → Int → Option (ByteArray)
 | 0, _, _, _ => none
 | k + 1, x0, x3, x4 => if x4 < (x0.length : Int) then (if 0 ≤ x4 then ((bulletinref15_Show.f k ((rd_T67 x0 x4).f0) ((rd_T67 x0 x4).f1)).bind fun t350 => (if x3.size + t350.size ≤ 9223372036854775807 then (bulletinref15_Print.l0 k x0 (x3 ++ t350) (wrap64 (x4 + 1))) else (none))) else (none)) else (some x3)
def bulletinref15_Print.f (k : Nat) (l0 : List (S67)) : Option (ByteArray) := bulletinref15_Print.l0 k l0 (⟨#[]⟩ : ByteArray) 0
set_option maxHeartbeats 8000000 in
set_option maxRecDepth 100000 in
theorem bulletinref15_Print.calls (k : Nat) (A0 : Option Addr) (c0 : Nat) (l0 : List (S67)) (r : ByteArray) (w : World) (hr0 : Kd.C k67 w A0 l0.length l0) (hc0 : l0.length ≤ c0) (h : bulletinref15_Print.f k l0 = some r) :
  Calls Tryz.prog 40 #[.slice A0 l0.length c0] w fun e w' => e = .returned (.string r) ∧ Below w.heap.size w w' := by
 have hu67 := Tryz.underlying67; have HR0 := Aside0.mk hr0; have HC0 := Aside0.mk hc0; clear hr0 hc0; have HB := Aside0.mk (Below.refl w.heap.size w); have H : (bulletinref15_Print.l0 k l0 (⟨#[]⟩ : ByteArray) 0) = some r := h; clear h; have H' := Aside0.mk H; clear H
 go_enter Tryz.func40, Tryz.ntmps40
 go_wp2
 go_loopg [3, 4] k (fun kq v3 v4 w' => ∃ (x3_1 : ByteArray) (x4_1 : Int), v3 = .string x3_1 ∧ v4 = .int .i64 x4_1 ∧ Aside0 (bulletinref15_Print.l0 kq l0 x3_1 x4_1 = some r) ∧ Aside0 (kq ≤ k) ∧ Aside0 (Below w.heap.size w w'))
 case atStart => exact ⟨((⟨#[]⟩ : ByteArray)), (0), cl, cl, H', ⟨Nat.le_refl _⟩, ⟨bw⟩⟩
 case round =>
  clear H'; obtain ⟨x3_1, x4_1, rfl, rfl, HA, HK1, HB⟩ := hrel; cases gk with
  | zero => exact absurd HA.out (by simp [bulletinref15_Print.l0])
  | succ k1 =>
   have H := HA.out; clear HA; simp only [bulletinref15_Print.l0] at H
   by_cases c2 : x4_1 < (l0.length : Int)
   ·rw [if_pos c2] at H; have c2b0 : decide (x4_1 < (l0.length : Int)) = true := decide_eq_true c2; clear c2
    by_cases c3 : 0 ≤ x4_1
    ·rw [if_pos c3] at H; have c3b0 : decide (0 ≤ x4_1) = true := decide_eq_true c3; clear c3; replace H := Option.bind_eq_some_iff.mp H; obtain ⟨t350, A40, H⟩ := H; replace H : (if x3_1.size + t350.size ≤ 9223372036854775807 then (bulletinref15_Print.l0 k1 l0 (x3_1 ++ t350) (wrap64 (x4_1 + 1))) else (none)) = some r := H; have A4 := Aside0.mk A40; clear A40
     by_cases c5 : x3_1.size + t350.size ≤ 9223372036854775807
     ·rw [if_pos c5] at H; have c5b0 := eq_true c5; have c5b1 : decide (x3_1.size + t350.size ≤ 9223372036854775807) = true := decide_eq_true c5
      try have c5b2 : (9223372036854775807 < x3_1.size + t350.size) = False := eq_false (Nat.not_lt.2 c5)
      have H' := Aside0.mk H; clear H; have p349 : 0 ≤ (x4_1 : Int) := od; have q349 : x4_1 < (l0.length : Int) := od; obtain ⟨ad349, e349, hx349_0, hx349_1⟩ := at_T67 HR0.out x4_1 p349 q349; cases e349; replace hx349_0 := (HB.out.cell (World.block_lt_of_cell? w _ hx349_0)).trans hx349_0; replace hx349_1 := (HB.out.cell (World.block_lt_of_cell? w _ hx349_1)).trans hx349_1; replace p349 := eq_true p349; replace q349 := eq_true q349
      go_wp2_with (first | ((with_reducible refine gate_callee (f := 68) rfl ?_); refine goesL_ (some 16) rfl rfl Tryz.func68 (by kernel_rfl) rfl #[.agg #[.string ((rd_T67 l0 x4_1).f0), .string ((rd_T67 l0 x4_1).f1)]] rfl am ?_; (with_reducible refine (bulletinref15_Show.calls k1 ((rd_T67 l0 x4_1).f0) ((rd_T67 l0 x4_1).f1) t350 _ A4.out).mono ?_); rintro e w6 ⟨rfl, hb⟩; refine ⟨_, rfl, ?_⟩; have n0_ := Aside0.mk (below_step bw hb); clear HB; have HB := n0_; clear n0_; (try clear hb); (try clear hb2); (try clear hk); (try clear hi)))
      go_roundg k1
      case measure => have := HK1.out; omega
      case rel => exact ⟨(x3_1 ++ t350), (wrap64 (x4_1 + 1)), cl, cl, H', ⟨by have := HK1.out; omega⟩, ⟨bw⟩⟩
     ·rw [if_neg c5] at H; exact absurd H (by simp)
    ·rw [if_neg c3] at H; exact absurd H (by simp)
   ·rw [if_neg c2] at H; have c2b0 : decide (x4_1 < (l0.length : Int)) = false := decide_eq_false c2; clear c2; obtain rfl := Option.some.inj H
    go_wp2
    go_ret
    exact ⟨ew, bw⟩

end Go.Proofs.YtbjbpgmjijeppaaGreatDoor.Fn
namespace Go.Proofs.YtbjbpgmjijeppaaGreatDoor.Fn
open Go.RowKit Go.Proofs.YtbjbpgmjijeppaaGreatDoorW.PrintWords Go.Proofs.YtbjbpgmjijeppaaGreatDoorW.PrintLast Go.Proofs.YtbjbpgmjijeppaaGreatDoorW.PrintMore
attribute [local go_sem] max2_int min2_int max_two min_two max_three min_three max_four min_four
set_option linter.unusedVariables false
set_option linter.unusedSimpArgs false

def bulletinref16_Text.f (k : Nat) (l0_0 : List (S67)) (a0_1 : ByteArray) : Option (ByteArray) := (bulletinref15_Print.f k l0_0).bind fun t352 => (if t352.size + 2 ≤ 9223372036854775807 then (if (t352 ++ (⟨#[13, 10]⟩ : ByteArray)).size + a0_1.size ≤ 9223372036854775807 then (some ((t352 ++ (⟨#[13, 10]⟩ : ByteArray)) ++ a0_1)) else (none)) else (none))
def bulletinref16_Text.T1 : Bool × List (List Nat × List Nat) := (true, [([], []), ([0], [0]), ([1], [1]), ([2], [2]), ([], []), ([4], [4]), ([3, 5], [3, 5]), ([6, 2, 0, 1, 2, 3, 4, 5, 6], [6])])
def bulletinref16_Text.B1 : List Nat := [0, 1, 3, 7, 0, 16, 63, 127]
theorem bulletinref16_Text.tab1 : rtab .any (opsOf Tryz.f14 1) = bulletinref16_Text.T1 := by kernel_rfl
theorem bulletinref16_Text.bits1 : waitsOk bulletinref16_Text.T1.2 bulletinref16_Text.B1 = true := by kernel_rfl
set_option maxHeartbeats 8000000 in
set_option maxRecDepth 100000 in
theorem bulletinref16_Text.calls (k : Nat) (A0_0 : Option Addr) (c0_0 : Nat) (l0_0 : List (S67)) (a0_1 : ByteArray) (r : ByteArray) (w : World) (hr0_0 : Kd.C k67 w A0_0 l0_0.length l0_0) (hc0_0 : l0_0.length ≤ c0_0) (h : bulletinref16_Text.f k l0_0 a0_1 = some r) :
  Calls Tryz.prog 14 #[.agg #[.slice A0_0 l0_0.length c0_0, .string a0_1]] w fun e w' => e = .returned (.string r) ∧ Below w.heap.size w w' := by
 have hu31 := Tryz.underlying31; have HR0_0 := Aside0.mk hr0_0; have HC0_0 := Aside0.mk hc0_0; clear hr0_0 hc0_0; have HB := Aside0.mk (Below.refl w.heap.size w); have H : ((bulletinref15_Print.f k l0_0).bind fun t352 => (if t352.size + 2 ≤ 9223372036854775807 then (if (t352 ++ (⟨#[13, 10]⟩ : ByteArray)).size + a0_1.size ≤ 9223372036854775807 then (some ((t352 ++ (⟨#[13, 10]⟩ : ByteArray)) ++ a0_1)) else (none)) else (none))) = some r := h; clear h; replace H := Option.bind_eq_some_iff.mp H; obtain ⟨t352, A20, H⟩ := H; replace H : (if t352.size + 2 ≤ 9223372036854775807 then (if (t352 ++ (⟨#[13, 10]⟩ : ByteArray)).size + a0_1.size ≤ 9223372036854775807 then (some ((t352 ++ (⟨#[13, 10]⟩ : ByteArray)) ++ a0_1)) else (none)) else (none)) = some r := H; have A2 := Aside0.mk A20; clear A20
 by_cases c3 : t352.size + 2 ≤ 9223372036854775807
 ·rw [if_pos c3] at H; have c3b0 := eq_true c3; have c3b1 : decide (t352.size + 2 ≤ 9223372036854775807) = true := decide_eq_true c3
  try have c3b2 : (9223372036854775807 < t352.size + 2) = False := eq_false (Nat.not_lt.2 c3)
  by_cases c4 : (t352 ++ (⟨#[13, 10]⟩ : ByteArray)).size + a0_1.size ≤ 9223372036854775807
  ·rw [if_pos c4] at H; have c4b0 := eq_true c4; have c4b1 : decide ((t352 ++ (⟨#[13, 10]⟩ : ByteArray)).size + a0_1.size ≤ 9223372036854775807) = true := decide_eq_true c4
   try have c4b2 : (9223372036854775807 < (t352 ++ (⟨#[13, 10]⟩ : ByteArray)).size + a0_1.size) = False := eq_false (Nat.not_lt.2 c4)
   try (have c4b3 := c4; simp only [ByteArray.size_append, size_lit, ByteArray.size_extract, List.size_toArray, List.length_cons, List.length_nil, Nat.zero_add, Nat.reduceAdd] at c4b3; have c4b4 := eq_false (Nat.not_lt.2 c4b3))
   obtain rfl := Option.some.inj H
   go_enter Tryz.func14, Tryz.ntmps14
   try go_wp2_with (first | ((with_reducible refine gate_dst (N := 1) rfl ?_); refine box_event ?hg (N := 1) ?hd (cs := #[.slice A0_0 l0_0.length c0_0, .string a0_1]) (t := 31) ?hr ?_; (case hd => rfl); (case hg => rfl); (case hr => first | (go_simp; done) | (go_simp; rfl)); intro gb351 hg w5 hbox hb; have n0_ := Aside0.mk (below_step bw hb); have n1_ := Aside0.mk (hbox); have n2_ := Aside0.mk ((by rw [hg]; exact (below_size bw) : w.heap.size ≤ gb351)); have n3_ := Aside0.mk ((by rw [hg]; exact (below_size bw) : w.heap.size ≤ gb351)); clear HB; have HB := n0_; have BK351 := n1_; have GW351 := n2_; have GE351 := n3_; clear n0_ n1_ n2_ n3_; clear hb hbox hg))
   have n0_ := Aside0.mk (blk_drew BK351.out); have n1_ := Aside0.mk (below_drew1 HB.out); clear BK351 HB; have BK351 := n0_; have HB := n1_; clear n0_ n1_; refine start_ (n := 8) (S := fun w' => w'.cell? ⟨gb351, 0, none⟩ = some (.slice A0_0 l0_0.length c0_0) ∧ w'.cell? ⟨gb351, 1, none⟩ = some (.string a0_1)) (ds := []) #[false, false, false, false, false, false, false, false] (by kernel_rfl) rfl rfl ⟨(blk_cell BK351.out 0).trans rfl, (blk_cell BK351.out 1).trans rfl⟩ (fun hHeld => ?_); refine with_tabW bulletinref16_Text.tab1 bulletinref16_Text.bits1 (fun HT_ HW_ => ?_)
   generalize w5.drew = w6 at BK351 HB hHeld ⊢
   refine pure_ (i := 0) (N := some 3) (v := ?_) (a' := ?_) (bitsL 8 1) rfl rfl (any_of HT_.out (by kernel_rfl)) (fun _ _ _ h => h) (Or.inl ⟨by rfl, ?_⟩) ?_ ?_; rotate_left
   ·intro w'; go_simp; with_reducible rfl
   rotate_left
   ·simp only [Act.put, List.setIfInBounds_toArray, List.set_cons_zero, List.set_cons_succ, i64_w, i32_w]; rfl
   refine pure_ (i := 4) (N := some 7) (v := ?_) (a' := ?_) (bitsL 8 17) rfl rfl (any_of HT_.out (by kernel_rfl)) (fun _ _ _ h => h) (Or.inl ⟨by rfl, ?_⟩) ?_ ?_; rotate_left
   ·intro w'; go_simp; with_reducible rfl
   rotate_left
   ·simp only [Act.put, List.setIfInBounds_toArray, List.set_cons_zero, List.set_cons_succ, i64_w, i32_w]; rfl
   refine take_ (i := 1) (N := some 4) (v := ?_) (a' := ?_) (bitsL 8 19) rfl rfl (take_ofW HT_.out HW_.out (by kernel_rfl)) (fun _ _ _ h => h) (Or.inl ⟨by rfl, ?_⟩) hHeld ?_ ?_; rotate_left
   ·rintro w' ⟨s0, s1⟩; go_simp; with_reducible rfl
   rotate_left
   ·simp only [Act.put, List.setIfInBounds_toArray, List.set_cons_zero, List.set_cons_succ, i64_w, i32_w]; rfl
   refine take_ (i := 5) (N := some 8) (v := ?_) (a' := ?_) (bitsL 8 51) rfl rfl (take_ofW HT_.out HW_.out (by kernel_rfl)) (fun _ _ _ h => h) (Or.inl ⟨by rfl, ?_⟩) hHeld ?_ ?_; rotate_left
   ·rintro w' ⟨s0, s1⟩; go_simp; with_reducible rfl
   rotate_left
   ·simp only [Act.put, List.setIfInBounds_toArray, List.set_cons_zero, List.set_cons_succ, i64_w, i32_w]; rfl
   refine one_ (i := 2) (N := some 5) (bitsL 8 55) rfl rfl (one_of HT_.out (by kernel_rfl)) (by decide) (fun K hK => ?_); refine goes_ Tryz.func40 (by kernel_rfl) rfl #[.slice A0_0 l0_0.length c0_0] (by rfl) rfl rfl am ?_; with_reducible refine (bulletinref15_Print.calls k _ _ l0_0 t352 _ ?side1 ?side2 A2.out).mono ?_
   (case side1 => repeat (first | exact (Kd.C_below HR0_0.out HB.out) | (with_reducible refine Kd.C_alloc ?_ _) | (with_reducible refine Kd.C_drewN ?_ _) | (with_reducible refine Kd.C_drew ?_)))
   (case side2 => exact HC0_0.out)
   rintro e w7 ⟨rfl, hb⟩; refine ⟨_, rfl, ?_⟩; have n0_ := Aside0.mk (blk_below (g := gb351) (o := .cells #[.slice A0_0 l0_0.length c0_0, .string a0_1] 31 (0, 0)) bk hb); have n1_ := Aside0.mk (below_step bwS hb); clear BK351 HB; have BK351 := n0_; have HB := n1_; clear n0_ n1_
   (try clear hb)
   (try clear hb2)
   (try clear hk)
   (try clear hi)
   refine hK.out _ _ ⟨(blk_cell BK351.out 0).trans rfl, (blk_cell BK351.out 1).trans rfl⟩ (fun hHeld => ?_); clear hK K; refine norm_ (a' := ?_) ?_ ?_; rotate_left
   ·show Act.put _ (some 5) _ = _
    simp only [Act.put, List.setIfInBounds_toArray, List.set_cons_zero, List.set_cons_succ, i64_w, i32_w]; rfl
   refine pure_ (i := 3) (N := some 6) (v := ?_) (a' := ?_) (bitsL 8 63) rfl rfl (any_of HT_.out (by kernel_rfl)) (fun _ _ _ h => h) (Or.inl ⟨by rfl, ?_⟩) ?_ ?_; rotate_left
   ·intro w'; go_simp; with_reducible rfl
   rotate_left
   ·simp only [Act.put, List.setIfInBounds_toArray, List.set_cons_zero, List.set_cons_succ, i64_w, i32_w]; rfl
   refine pure_ (i := 6) (N := some 9) (v := ?_) (a' := ?_) (bitsL 8 127) rfl rfl (any_of HT_.out (by kernel_rfl)) (fun _ _ _ h => h) (Or.inl ⟨by rfl, ?_⟩) ?_ ?_; rotate_left
   ·intro w'; go_simp; with_reducible rfl
   rotate_left
   ·simp only [Act.put, List.setIfInBounds_toArray, List.set_cons_zero, List.set_cons_succ, i64_w, i32_w]; rfl
   refine pure_ (i := 7) (N := some 2) (v := ?_) (a' := ?_) (bitsL 8 255) rfl rfl (any_of HT_.out (by kernel_rfl)) (fun _ _ _ h => h) (Or.inl ⟨by rfl, ?_⟩) ?_ ?_; rotate_left
   ·intro w'; go_simp; with_reducible rfl
   rotate_left
   ·simp only [Act.put, List.setIfInBounds_toArray, List.set_cons_zero, List.set_cons_succ, i64_w, i32_w]; rfl
   refine done_ (done_of HT_.out (by kernel_rfl)) ?_
   try go_wp2
   go_ret
   exact ⟨ew, bwS⟩
  ·rw [if_neg c4] at H; exact absurd H (by simp)
 ·rw [if_neg c3] at H; exact absurd H (by simp)

end Go.Proofs.YtbjbpgmjijeppaaGreatDoor.Fn
