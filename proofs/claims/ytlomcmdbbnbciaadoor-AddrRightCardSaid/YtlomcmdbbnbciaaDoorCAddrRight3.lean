/- The law bulletinlaw13.AddrRight returns true for every input: what any bytes are read as is right, and read again of its text, and what is read strictly is what is read; the tables of unicode/utf8 are as the program's text lays them. -/
import Derived.Test.YtlomcmdbbnbciaaDoorCAddrRight2
import Derived.Test.YtlomcmdbbnbciaaDoorRows
import Derived.HandedShaped
import Derived.LaidLaws
import Derived.LaidHandle
import Derived.Deep.DeepLaidRun
import Derived.Stop.Joined
import Derived.PinnedBridge
import Derived.Lib.LaidU8
import Derived.ProofKit
import Derived.Test.YtlomcmdbbnbciaaDoorTie
import Derived.Test.YtlomcmdbbnbciaaDoorCards
import Derived.WalkKit
import Derived.OpenShut
import Derived.ShutString
import Derived.ChangeOld
import Derived.Below
import Derived.SizedLaws
import Derived.Lib.SmallJoins
import Derived.SevenTiedAt
-- written by xprint.py of this session over the kit's printer; not trusted: Lean checks it
namespace Go.Proofs.YtlomcmdbbnbciaaDoor.Fn
open Go.RowKit Go.Proofs.YtlomcmdbbnbciaaDoorW.PrintWords Go.Proofs.YtlomcmdbbnbciaaDoorW.PrintLast Go.Proofs.YtlomcmdbbnbciaaDoorW.PrintMore
attribute [local go_sem] max2_int min2_int max_two min_two max_three min_three max_four min_four   -- for this text's walks alone
set_option linter.unusedVariables false
set_option linter.unusedSimpArgs false

attribute [local go_sem high] eqA32
/-! ### bulletinlaw13_AddrRight: function 8 -/
def bulletinlaw13_AddrRight.f (k : Nat) (a0 : ByteArray) : Option (Bool) := (bulletinlaw13_works.f k).bind fun t504 => (if t504 = true then (if (a0.size : Int) > 1000 then (some true) else ((addr_Parse.f k a0).bind fun bt505 => ((addr_Strict.f k a0).bind fun bt509 => (if bt505.2.2 = 0 then ((addr_Addr_Text.f k bt505.1 bt505.2.1).bind fun t513 => ((addr_Parse.f k t513).bind fun bt514 => ((addr_Addr_Right.f k bt505.1 bt505.2.1).bind fun t518 => (if t518 = true then (if bt514.2.2 = 0 then (if (bt514.1.toList == bt505.1.toList && (bt514.2.1.toList == bt505.2.1.toList)) = true then (if bt509.2.2 = 0 then (some (bt509.1.toList == bt505.1.toList && (bt509.2.1.toList == bt505.2.1.toList))) else (some true)) else (some false)) else (some false)) else (some false))))) else (if bt509.2.2 = bt505.2.2 then (if (bt505.1.toList == ([] : List UInt8) && (bt505.2.1.toList == ([] : List UInt8))) = true then (some (bt509.1.toList == ([] : List UInt8) && (bt509.2.1.toList == ([] : List UInt8)))) else (some false)) else (some false)))))) else (some false))
set_option maxHeartbeats 8000000 in
set_option maxRecDepth 100000 in
theorem bulletinlaw13_AddrRight.calls (k : Nat) (a0 : ByteArray) (r : Bool) (w : World) (h : bulletinlaw13_AddrRight.f k a0 = some r) :
  Calls Tryd.prog 8 #[.string a0] w fun e w' => e = .returned (.bool r) ∧ Below w.heap.size w w' := by
 have hu32 := Tryd.underlying32
 have HB := Aside0.mk (Below.refl w.heap.size w)
 have H : ((bulletinlaw13_works.f k).bind fun t504 => (if t504 = true then (if (a0.size : Int) > 1000 then (some true) else ((addr_Parse.f k a0).bind fun bt505 => ((addr_Strict.f k a0).bind fun bt509 => (if bt505.2.2 = 0 then ((addr_Addr_Text.f k bt505.1 bt505.2.1).bind fun t513 => ((addr_Parse.f k t513).bind fun bt514 => ((addr_Addr_Right.f k bt505.1 bt505.2.1).bind fun t518 => (if t518 = true then (if bt514.2.2 = 0 then (if (bt514.1.toList == bt505.1.toList && (bt514.2.1.toList == bt505.2.1.toList)) = true then (if bt509.2.2 = 0 then (some (bt509.1.toList == bt505.1.toList && (bt509.2.1.toList == bt505.2.1.toList))) else (some true)) else (some false)) else (some false)) else (some false))))) else (if bt509.2.2 = bt505.2.2 then (if (bt505.1.toList == ([] : List UInt8) && (bt505.2.1.toList == ([] : List UInt8))) = true then (some (bt509.1.toList == ([] : List UInt8) && (bt509.2.1.toList == ([] : List UInt8)))) else (some false)) else (some false)))))) else (some false))) = some r := h
 clear h
 replace H := Option.bind_eq_some_iff.mp H
 obtain ⟨t504, A20, H⟩ := H
 replace H : (if t504 = true then (if (a0.size : Int) > 1000 then (some true) else ((addr_Parse.f k a0).bind fun bt505 => ((addr_Strict.f k a0).bind fun bt509 => (if bt505.2.2 = 0 then ((addr_Addr_Text.f k bt505.1 bt505.2.1).bind fun t513 => ((addr_Parse.f k t513).bind fun bt514 => ((addr_Addr_Right.f k bt505.1 bt505.2.1).bind fun t518 => (if t518 = true then (if bt514.2.2 = 0 then (if (bt514.1.toList == bt505.1.toList && (bt514.2.1.toList == bt505.2.1.toList)) = true then (if bt509.2.2 = 0 then (some (bt509.1.toList == bt505.1.toList && (bt509.2.1.toList == bt505.2.1.toList))) else (some true)) else (some false)) else (some false)) else (some false))))) else (if bt509.2.2 = bt505.2.2 then (if (bt505.1.toList == ([] : List UInt8) && (bt505.2.1.toList == ([] : List UInt8))) = true then (some (bt509.1.toList == ([] : List UInt8) && (bt509.2.1.toList == ([] : List UInt8)))) else (some false)) else (some false)))))) else (some false)) = some r := H
 have A2 := Aside0.mk A20
 clear A20
 by_cases c3 : t504 = true
 ·subst c3
  have H1 : (if (a0.size : Int) > 1000 then (some true) else ((addr_Parse.f k a0).bind fun bt505 => ((addr_Strict.f k a0).bind fun bt509 => (if bt505.2.2 = 0 then ((addr_Addr_Text.f k bt505.1 bt505.2.1).bind fun t513 => ((addr_Parse.f k t513).bind fun bt514 => ((addr_Addr_Right.f k bt505.1 bt505.2.1).bind fun t518 => (if t518 = true then (if bt514.2.2 = 0 then (if (bt514.1.toList == bt505.1.toList && (bt514.2.1.toList == bt505.2.1.toList)) = true then (if bt509.2.2 = 0 then (some (bt509.1.toList == bt505.1.toList && (bt509.2.1.toList == bt505.2.1.toList))) else (some true)) else (some false)) else (some false)) else (some false))))) else (if bt509.2.2 = bt505.2.2 then (if (bt505.1.toList == ([] : List UInt8) && (bt505.2.1.toList == ([] : List UInt8))) = true then (some (bt509.1.toList == ([] : List UInt8) && (bt509.2.1.toList == ([] : List UInt8)))) else (some false)) else (some false)))))) = some r := by rw [if_pos rfl] at H; exact H
  clear H
  have H := H1
  clear H1
  by_cases c4 : (a0.size : Int) > 1000
  ·rw [if_pos c4] at H
   have c4b0 : decide (1000 < (a0.size : Int)) = true := decide_eq_true c4
   have c4b1 : decide (1000 < a0.size) = true := decide_eq_true (by omega)
   clear c4
   obtain rfl := Option.some.inj H
   go_enter Tryd.func8, Tryd.ntmps8
   go_wp2_with (first | ((with_reducible refine gate_callee (f := 23) rfl ?_); refine goesL_ (some 9) rfl rfl Tryd.func23 (by kernel_rfl) rfl #[] rfl am ?_; (with_reducible refine (bulletinlaw13_works.calls k  true _ A2.out).mono ?_); rintro e w5 ⟨rfl, hb⟩; refine ⟨_, rfl, ?_⟩; have n0_ := Aside0.mk (below_step bw hb); clear HB; have HB := n0_; clear n0_; (try clear hb); (try clear hb2); (try clear hk); (try clear hi)))
   go_ret
   exact ⟨by first | rfl | (simp [errW_none, errW_some] <;> rfl) | (simp [*, errW_none, errW_some] <;> rfl), by repeat (first | (with_reducible first | exact HB.out | apply below_alloc | apply pw_below_drewN | apply below_drew1) | exact HB.out)⟩
  ·rw [if_neg c4] at H
   have c4b0 : decide (1000 < (a0.size : Int)) = false := decide_eq_false c4
   have c4b1 : decide (1000 < a0.size) = false := decide_eq_false (by omega)
   clear c4
   replace H := Option.bind_eq_some_iff.mp H
   obtain ⟨⟨t505, t506, t507⟩, A60, H⟩ := H
   replace H : ((addr_Strict.f k a0).bind fun bt509 => (if t507 = 0 then ((addr_Addr_Text.f k t505 t506).bind fun t513 => ((addr_Parse.f k t513).bind fun bt514 => ((addr_Addr_Right.f k t505 t506).bind fun t518 => (if t518 = true then (if bt514.2.2 = 0 then (if (bt514.1.toList == t505.toList && (bt514.2.1.toList == t506.toList)) = true then (if bt509.2.2 = 0 then (some (bt509.1.toList == t505.toList && (bt509.2.1.toList == t506.toList))) else (some true)) else (some false)) else (some false)) else (some false))))) else (if bt509.2.2 = t507 then (if (t505.toList == ([] : List UInt8) && (t506.toList == ([] : List UInt8))) = true then (some (bt509.1.toList == ([] : List UInt8) && (bt509.2.1.toList == ([] : List UInt8)))) else (some false)) else (some false)))) = some r := H
   have A6 := Aside0.mk A60
   clear A60
   replace H := Option.bind_eq_some_iff.mp H
   obtain ⟨⟨t509, t510, t511⟩, A70, H⟩ := H
   replace H : (if t507 = 0 then ((addr_Addr_Text.f k t505 t506).bind fun t513 => ((addr_Parse.f k t513).bind fun bt514 => ((addr_Addr_Right.f k t505 t506).bind fun t518 => (if t518 = true then (if bt514.2.2 = 0 then (if (bt514.1.toList == t505.toList && (bt514.2.1.toList == t506.toList)) = true then (if t511 = 0 then (some (t509.toList == t505.toList && (t510.toList == t506.toList))) else (some true)) else (some false)) else (some false)) else (some false))))) else (if t511 = t507 then (if (t505.toList == ([] : List UInt8) && (t506.toList == ([] : List UInt8))) = true then (some (t509.toList == ([] : List UInt8) && (t510.toList == ([] : List UInt8)))) else (some false)) else (some false))) = some r := H
   have A7 := Aside0.mk A70
   clear A70
   by_cases c8 : t507 = 0
   ·rw [if_pos c8] at H
    have c8b0 : (t507 == 0) = true := beq_iff_eq.mpr c8
    have c8b1 : (t507 != 0) = false := bne_eq_false_iff_eq.mpr c8
    clear c8
    replace H := Option.bind_eq_some_iff.mp H
    obtain ⟨t513, A90, H⟩ := H
    replace H : ((addr_Parse.f k t513).bind fun bt514 => ((addr_Addr_Right.f k t505 t506).bind fun t518 => (if t518 = true then (if bt514.2.2 = 0 then (if (bt514.1.toList == t505.toList && (bt514.2.1.toList == t506.toList)) = true then (if t511 = 0 then (some (t509.toList == t505.toList && (t510.toList == t506.toList))) else (some true)) else (some false)) else (some false)) else (some false)))) = some r := H
    have A9 := Aside0.mk A90
    clear A90
    replace H := Option.bind_eq_some_iff.mp H
    obtain ⟨⟨t514, t515, t516⟩, A100, H⟩ := H
    replace H : ((addr_Addr_Right.f k t505 t506).bind fun t518 => (if t518 = true then (if t516 = 0 then (if (t514.toList == t505.toList && (t515.toList == t506.toList)) = true then (if t511 = 0 then (some (t509.toList == t505.toList && (t510.toList == t506.toList))) else (some true)) else (some false)) else (some false)) else (some false))) = some r := H
    have A10 := Aside0.mk A100
    clear A100
    replace H := Option.bind_eq_some_iff.mp H
    obtain ⟨t518, A110, H⟩ := H
    replace H : (if t518 = true then (if t516 = 0 then (if (t514.toList == t505.toList && (t515.toList == t506.toList)) = true then (if t511 = 0 then (some (t509.toList == t505.toList && (t510.toList == t506.toList))) else (some true)) else (some false)) else (some false)) else (some false)) = some r := H
    have A11 := Aside0.mk A110
    clear A110
    by_cases c12 : t518 = true
    ·subst c12
     have H1 : (if t516 = 0 then (if (t514.toList == t505.toList && (t515.toList == t506.toList)) = true then (if t511 = 0 then (some (t509.toList == t505.toList && (t510.toList == t506.toList))) else (some true)) else (some false)) else (some false)) = some r := by rw [if_pos rfl] at H; exact H
     clear H
     have H := H1
     clear H1
     by_cases c13 : t516 = 0
     ·rw [if_pos c13] at H
      have c13b0 : (t516 == 0) = true := beq_iff_eq.mpr c13
      have c13b1 : (t516 != 0) = false := bne_eq_false_iff_eq.mpr c13
      clear c13
      by_cases c14 : (t514.toList == t505.toList && (t515.toList == t506.toList)) = true
      ·rw [if_pos c14] at H
       have c14b0 : (t514.toList == t505.toList && (t515.toList == t506.toList)) = true := c14
       (try (have c14b1 : decide (t514.toList = t505.toList && (t515.toList == t506.toList)) = true := by simpa using c14))
       (try (have c14b2 : (t514.toList == t505.toList && (t515.toList == t506.toList)) = true := by simpa using c14))
       clear c14
       by_cases c15 : t511 = 0
       ·rw [if_pos c15] at H
        have c15b0 : (t511 == 0) = true := beq_iff_eq.mpr c15
        have c15b1 : (t511 != 0) = false := bne_eq_false_iff_eq.mpr c15
        clear c15
        obtain rfl := Option.some.inj H
        go_enter Tryd.func8, Tryd.ntmps8
        go_wp2_with (first | ((with_reducible refine gate_callee (f := 23) rfl ?_); refine goesL_ (some 9) rfl rfl Tryd.func23 (by kernel_rfl) rfl #[] rfl am ?_; (with_reducible refine (bulletinlaw13_works.calls k  true _ A2.out).mono ?_); rintro e w16 ⟨rfl, hb⟩; refine ⟨_, rfl, ?_⟩; have n0_ := Aside0.mk (below_step bw hb); clear HB; have HB := n0_; clear n0_; (try clear hb); (try clear hb2); (try clear hk); (try clear hi)) | ((with_reducible refine gate_callee (f := 35) rfl ?_); refine goesL_ (some 16) rfl rfl Tryd.func35 (by kernel_rfl) rfl #[.string a0] rfl am ?_; (with_reducible refine (addr_Parse.calls k a0 t505 t506 t507 _ A6.out).mono ?_); rintro e w17 ⟨rfl, hb⟩; refine ⟨_, rfl, ?_⟩; have n0_ := Aside0.mk (below_step bw hb); clear HB; have HB := n0_; clear n0_; (try clear hb); (try clear hb2); (try clear hk); (try clear hi)) | ((with_reducible refine gate_dst (N := 3) rfl ?_); refine box_event ?hg (N := 3) ?hd (cs := #[.string (⟨#[]⟩ : ByteArray), .string (⟨#[]⟩ : ByteArray)]) (t := 32) ?hr ?_; (case hd => rfl); (case hg => rfl); (case hr => first | (go_simp; done) | (go_simp; rfl)); intro gb508 hg w18 hbox hb; have n0_ := Aside0.mk (below_step bw hb); have n1_ := Aside0.mk (hbox); have n2_ := Aside0.mk ((by rw [hg]; exact (below_size bw) : w.heap.size ≤ gb508)); have n3_ := Aside0.mk ((by rw [hg]; exact (below_size bw) : w.heap.size ≤ gb508)); clear HB; have HB := n0_; have BK508 := n1_; have GW508 := n2_; have GE508 := n3_; clear n0_ n1_ n2_ n3_; clear hb hbox hg; have hcz19_0 : w18.cell? ⟨gb508, 0, none⟩ = some (.string (⟨#[]⟩ : ByteArray)) := (blk_cell BK508.out 0).trans rfl; have hcz19_1 : w18.cell? ⟨gb508, 1, none⟩ = some (.string (⟨#[]⟩ : ByteArray)) := (blk_cell BK508.out 1).trans rfl; have hfz19_0 := blk_frozen BK508.out 0; have hfz19_1 := blk_frozen BK508.out 1) | ((with_reducible refine gate_callee (f := 36) rfl ?_); refine goesL_ (some 21) rfl rfl Tryd.func36 (by kernel_rfl) rfl #[.string a0] rfl am ?_; (with_reducible refine (addr_Strict.calls k a0 t509 t510 t511 _ A7.out).mono ?_); rintro e w20 ⟨rfl, hb⟩; refine ⟨_, rfl, ?_⟩; have n0_ := Aside0.mk (blk_below (g := gb508) (o := .cells #[.string t505, .string t506] 32 (0, 0)) (by (with_reducible repeat (first | refine blk_drewN ?_ _ | refine blk_drew ?_ | refine blk_alloc ?_ _)); refine blk_put (cs := #[.string t505, .string (⟨#[]⟩ : ByteArray)]) ?_ 1 _ rfl; (with_reducible repeat (first | refine blk_drewN ?_ _ | refine blk_drew ?_ | refine blk_alloc ?_ _)); refine blk_put (cs := #[.string (⟨#[]⟩ : ByteArray), .string (⟨#[]⟩ : ByteArray)]) ?_ 0 _ rfl; (with_reducible repeat (first | refine blk_drewN ?_ _ | refine blk_drew ?_ | refine blk_alloc ?_ _)); exact BK508.out) hb); have n1_ := Aside0.mk (below_step bwS hb); clear BK508; clear HB; have BK508 := n0_; have HB := n1_; clear n0_ n1_; (try clear hb); (try clear hb2); (try clear hk); (try clear hi)) | ((with_reducible refine gate_dst (N := 5) rfl ?_); refine box_event ?hg (N := 5) ?hd (cs := #[.string (⟨#[]⟩ : ByteArray), .string (⟨#[]⟩ : ByteArray)]) (t := 32) ?hr ?_; (case hd => rfl); (case hg => rfl); (case hr => first | (go_simp; done) | (go_simp; rfl)); intro gb512 hg w21 hbox hb; have n0_ := Aside0.mk (blk_below (g := gb508) (o := .cells #[.string t505, .string t506] 32 (0, 0)) bk hb); have n1_ := Aside0.mk (below_step bwS hb); have n2_ := Aside0.mk (hbox); have n3_ := Aside0.mk ((by rw [hg]; exact (below_size bwS) : w.heap.size ≤ gb512)); have n4_ := Aside0.mk ((by rw [hg]; exact (below_size bwS) : w.heap.size ≤ gb512)); have n5_ := Aside0.mk ((by rw [hg]; exact Nat.ne_of_lt (blk_lt (g := gb508) (o := .cells #[.string t505, .string t506] 32 (0, 0)) bk) : gb508 ≠ gb512)); have n6_ := Aside0.mk ((by rw [hg]; exact Nat.ne_of_gt (blk_lt (g := gb508) (o := .cells #[.string t505, .string t506] 32 (0, 0)) bk) : gb512 ≠ gb508)); clear BK508; clear HB; have BK508 := n0_; have HB := n1_; have BK512 := n2_; have GW512 := n3_; have GE512 := n4_; have NB508_512 := n5_; have NB512_508 := n6_; clear n0_ n1_ n2_ n3_ n4_ n5_ n6_; clear hb hbox hg; have hnb22 := NB512_508.out; have hnc22 := NB508_512.out; have hcz23_0 : w21.cell? ⟨gb512, 0, none⟩ = some (.string (⟨#[]⟩ : ByteArray)) := (blk_cell BK512.out 0).trans rfl; have hcz23_1 : w21.cell? ⟨gb512, 1, none⟩ = some (.string (⟨#[]⟩ : ByteArray)) := (blk_cell BK512.out 1).trans rfl; have hfz23_0 := blk_frozen BK512.out 0; have hfz23_1 := blk_frozen BK512.out 1; have hcz24_0 : w21.cell? ⟨gb508, 0, none⟩ = some (.string t505) := (blk_cell BK508.out 0).trans rfl; have hcz24_1 : w21.cell? ⟨gb508, 1, none⟩ = some (.string t506) := (blk_cell BK508.out 1).trans rfl; have hfz24_0 := blk_frozen BK508.out 0; have hfz24_1 := blk_frozen BK508.out 1) | ((with_reducible refine gate_callee (f := 29) rfl ?_); refine goesL_ (some 41) rfl rfl Tryd.func29 (by kernel_rfl) rfl #[.agg #[.string t505, .string t506]] rfl am ?_; (with_reducible refine (addr_Addr_Text.calls k t505 t506 t513 _ A9.out).mono ?_); rintro e w25 ⟨rfl, hb⟩; refine ⟨_, rfl, ?_⟩; have n0_ := Aside0.mk (blk_below (g := gb508) (o := .cells #[.string t505, .string t506] 32 (0, 0)) (by (with_reducible repeat (first | refine blk_drewN ?_ _ | refine blk_drew ?_ | refine blk_alloc ?_ _)); refine blk_far ?_ NB508_512.out _; (with_reducible repeat (first | refine blk_drewN ?_ _ | refine blk_drew ?_ | refine blk_alloc ?_ _)); refine blk_far ?_ NB508_512.out _; (with_reducible repeat (first | refine blk_drewN ?_ _ | refine blk_drew ?_ | refine blk_alloc ?_ _)); exact BK508.out) hb); have n1_ := Aside0.mk (blk_below (g := gb512) (o := .cells #[.string t509, .string t510] 32 (0, 0)) (by (with_reducible repeat (first | refine blk_drewN ?_ _ | refine blk_drew ?_ | refine blk_alloc ?_ _)); refine blk_put (cs := #[.string t509, .string (⟨#[]⟩ : ByteArray)]) ?_ 1 _ rfl; (with_reducible repeat (first | refine blk_drewN ?_ _ | refine blk_drew ?_ | refine blk_alloc ?_ _)); refine blk_put (cs := #[.string (⟨#[]⟩ : ByteArray), .string (⟨#[]⟩ : ByteArray)]) ?_ 0 _ rfl; (with_reducible repeat (first | refine blk_drewN ?_ _ | refine blk_drew ?_ | refine blk_alloc ?_ _)); exact BK512.out) hb); have n2_ := Aside0.mk (below_step (by repeat (first | (with_reducible first | exact HB.out | apply below_alloc | apply pw_below_drewN | apply below_drew1 | refine below_set ?_ GE508.out | refine below_set ?_ GE512.out) | exact HB.out)) hb); clear BK508; clear BK512; clear HB; have BK508 := n0_; have BK512 := n1_; have HB := n2_; clear n0_ n1_ n2_; (try clear hb); (try clear hb2); (try clear hk); (try clear hi)) | ((with_reducible refine gate_callee (f := 35) rfl ?_); refine goesL_ (some 42) rfl rfl Tryd.func35 (by kernel_rfl) rfl #[.string t513] rfl am ?_; (with_reducible refine (addr_Parse.calls k t513 t514 t515 t516 _ A10.out).mono ?_); rintro e w26 ⟨rfl, hb⟩; refine ⟨_, rfl, ?_⟩; have n0_ := Aside0.mk (blk_below (g := gb508) (o := .cells #[.string t505, .string t506] 32 (0, 0)) bk hb); have n1_ := Aside0.mk (blk_below (g := gb512) (o := .cells #[.string t509, .string t510] 32 (0, 0)) bk hb); have n2_ := Aside0.mk (below_step (by repeat (first | (with_reducible first | exact HB.out | apply below_alloc | apply pw_below_drewN | apply below_drew1 | refine below_set ?_ GE508.out | refine below_set ?_ GE512.out) | exact HB.out)) hb); clear BK508; clear BK512; clear HB; have BK508 := n0_; have BK512 := n1_; have HB := n2_; clear n0_ n1_ n2_; (try clear hb); (try clear hb2); (try clear hk); (try clear hi)) | ((with_reducible refine gate_dst (N := 7) rfl ?_); refine box_event ?hg (N := 7) ?hd (cs := #[.string (⟨#[]⟩ : ByteArray), .string (⟨#[]⟩ : ByteArray)]) (t := 32) ?hr ?_; (case hd => rfl); (case hg => rfl); (case hr => first | (go_simp; done) | (go_simp; rfl)); intro gb517 hg w27 hbox hb; have n0_ := Aside0.mk (blk_below (g := gb508) (o := .cells #[.string t505, .string t506] 32 (0, 0)) bk hb); have n1_ := Aside0.mk (blk_below (g := gb512) (o := .cells #[.string t509, .string t510] 32 (0, 0)) bk hb); have n2_ := Aside0.mk (below_step (by repeat (first | (with_reducible first | exact HB.out | apply below_alloc | apply pw_below_drewN | apply below_drew1 | refine below_set ?_ GE508.out | refine below_set ?_ GE512.out) | exact HB.out)) hb); have n3_ := Aside0.mk (hbox); have n4_ := Aside0.mk ((by rw [hg]; exact (below_size (by repeat (first | (with_reducible first | exact HB.out | apply below_alloc | apply pw_below_drewN | apply below_drew1 | refine below_set ?_ GE508.out | refine below_set ?_ GE512.out) | exact HB.out))) : w.heap.size ≤ gb517)); have n5_ := Aside0.mk ((by rw [hg]; exact (below_size (by repeat (first | (with_reducible first | exact HB.out | apply below_alloc | apply pw_below_drewN | apply below_drew1 | refine below_set ?_ GE508.out | refine below_set ?_ GE512.out) | exact HB.out))) : w.heap.size ≤ gb517)); have n6_ := Aside0.mk ((by rw [hg]; exact Nat.ne_of_lt (blk_lt (g := gb508) (o := .cells #[.string t505, .string t506] 32 (0, 0)) bk) : gb508 ≠ gb517)); have n7_ := Aside0.mk ((by rw [hg]; exact Nat.ne_of_gt (blk_lt (g := gb508) (o := .cells #[.string t505, .string t506] 32 (0, 0)) bk) : gb517 ≠ gb508)); have n8_ := Aside0.mk ((by rw [hg]; exact Nat.ne_of_lt (blk_lt (g := gb512) (o := .cells #[.string t509, .string t510] 32 (0, 0)) bk) : gb512 ≠ gb517)); have n9_ := Aside0.mk ((by rw [hg]; exact Nat.ne_of_gt (blk_lt (g := gb512) (o := .cells #[.string t509, .string t510] 32 (0, 0)) bk) : gb517 ≠ gb512)); clear BK508; clear BK512; clear HB; have BK508 := n0_; have BK512 := n1_; have HB := n2_; have BK517 := n3_; have GW517 := n4_; have GE517 := n5_; have NB508_517 := n6_; have NB517_508 := n7_; have NB512_517 := n8_; have NB517_512 := n9_; clear n0_ n1_ n2_ n3_ n4_ n5_ n6_ n7_ n8_ n9_; clear hb hbox hg; have hnb28 := NB517_508.out; have hnc28 := NB508_517.out; have hnb29 := NB517_512.out; have hnc29 := NB512_517.out; have hcz30_0 : w27.cell? ⟨gb517, 0, none⟩ = some (.string (⟨#[]⟩ : ByteArray)) := (blk_cell BK517.out 0).trans rfl; have hcz30_1 : w27.cell? ⟨gb517, 1, none⟩ = some (.string (⟨#[]⟩ : ByteArray)) := (blk_cell BK517.out 1).trans rfl; have hfz30_0 := blk_frozen BK517.out 0; have hfz30_1 := blk_frozen BK517.out 1; have hcz31_0 : w27.cell? ⟨gb508, 0, none⟩ = some (.string t505) := (blk_cell BK508.out 0).trans rfl; have hcz31_1 : w27.cell? ⟨gb508, 1, none⟩ = some (.string t506) := (blk_cell BK508.out 1).trans rfl; have hfz31_0 := blk_frozen BK508.out 0; have hfz31_1 := blk_frozen BK508.out 1) | ((with_reducible refine gate_callee (f := 25) rfl ?_); refine goesL_ (some 46) rfl rfl Tryd.func25 (by kernel_rfl) rfl #[.agg #[.string t505, .string t506]] rfl am ?_; (with_reducible refine (addr_Addr_Right.calls k t505 t506 true _ A11.out).mono ?_); rintro e w32 ⟨rfl, hb⟩; refine ⟨_, rfl, ?_⟩; have n0_ := Aside0.mk (blk_below (g := gb508) (o := .cells #[.string t505, .string t506] 32 (0, 0)) (by (with_reducible repeat (first | refine blk_drewN ?_ _ | refine blk_drew ?_ | refine blk_alloc ?_ _)); refine blk_far ?_ NB508_517.out _; (with_reducible repeat (first | refine blk_drewN ?_ _ | refine blk_drew ?_ | refine blk_alloc ?_ _)); refine blk_far ?_ NB508_517.out _; (with_reducible repeat (first | refine blk_drewN ?_ _ | refine blk_drew ?_ | refine blk_alloc ?_ _)); exact BK508.out) hb); have n1_ := Aside0.mk (blk_below (g := gb512) (o := .cells #[.string t509, .string t510] 32 (0, 0)) (by (with_reducible repeat (first | refine blk_drewN ?_ _ | refine blk_drew ?_ | refine blk_alloc ?_ _)); refine blk_far ?_ NB512_517.out _; (with_reducible repeat (first | refine blk_drewN ?_ _ | refine blk_drew ?_ | refine blk_alloc ?_ _)); refine blk_far ?_ NB512_517.out _; (with_reducible repeat (first | refine blk_drewN ?_ _ | refine blk_drew ?_ | refine blk_alloc ?_ _)); exact BK512.out) hb); have n2_ := Aside0.mk (blk_below (g := gb517) (o := .cells #[.string t514, .string t515] 32 (0, 0)) (by (with_reducible repeat (first | refine blk_drewN ?_ _ | refine blk_drew ?_ | refine blk_alloc ?_ _)); refine blk_put (cs := #[.string t514, .string (⟨#[]⟩ : ByteArray)]) ?_ 1 _ rfl; (with_reducible repeat (first | refine blk_drewN ?_ _ | refine blk_drew ?_ | refine blk_alloc ?_ _)); refine blk_put (cs := #[.string (⟨#[]⟩ : ByteArray), .string (⟨#[]⟩ : ByteArray)]) ?_ 0 _ rfl; (with_reducible repeat (first | refine blk_drewN ?_ _ | refine blk_drew ?_ | refine blk_alloc ?_ _)); exact BK517.out) hb); have n3_ := Aside0.mk (below_step (by repeat (first | (with_reducible first | exact HB.out | apply below_alloc | apply pw_below_drewN | apply below_drew1 | refine below_set ?_ GE508.out | refine below_set ?_ GE512.out | refine below_set ?_ GE517.out) | exact HB.out)) hb); clear BK508; clear BK512; clear BK517; clear HB; have BK508 := n0_; have BK512 := n1_; have BK517 := n2_; have HB := n3_; clear n0_ n1_ n2_ n3_; (try clear hb); (try clear hb2); (try clear hk); (try clear hi); have hcz33_0 : w32.cell? ⟨gb517, 0, none⟩ = some (.string t514) := (blk_cell BK517.out 0).trans rfl; have hcz33_1 : w32.cell? ⟨gb517, 1, none⟩ = some (.string t515) := (blk_cell BK517.out 1).trans rfl; have hfz33_0 := blk_frozen BK517.out 0; have hfz33_1 := blk_frozen BK517.out 1; have hcz34_0 : w32.cell? ⟨gb508, 0, none⟩ = some (.string t505) := (blk_cell BK508.out 0).trans rfl; have hcz34_1 : w32.cell? ⟨gb508, 1, none⟩ = some (.string t506) := (blk_cell BK508.out 1).trans rfl; have hfz34_0 := blk_frozen BK508.out 0; have hfz34_1 := blk_frozen BK508.out 1; have hcz35_0 : w32.cell? ⟨gb512, 0, none⟩ = some (.string t509) := (blk_cell BK512.out 0).trans rfl; have hcz35_1 : w32.cell? ⟨gb512, 1, none⟩ = some (.string t510) := (blk_cell BK512.out 1).trans rfl; have hfz35_0 := blk_frozen BK512.out 0; have hfz35_1 := blk_frozen BK512.out 1))
        go_ret
        exact ⟨by first | rfl | (simp [errW_none, errW_some] <;> rfl) | (simp [*, errW_none, errW_some] <;> rfl), by repeat (first | (with_reducible first | exact HB.out | apply below_alloc | apply pw_below_drewN | apply below_drew1 | refine below_set ?_ GE508.out | refine below_set ?_ GE512.out | refine below_set ?_ GE517.out) | exact HB.out)⟩
       ·rw [if_neg c15] at H
        have c15b0 : (t511 == 0) = false := beq_eq_false_iff_ne.mpr c15
        have c15b1 : (t511 != 0) = true := bne_iff_ne.mpr c15
        obtain rfl := Option.some.inj H
        go_enter Tryd.func8, Tryd.ntmps8
        go_wp2_with (first | ((with_reducible refine gate_callee (f := 23) rfl ?_); refine goesL_ (some 9) rfl rfl Tryd.func23 (by kernel_rfl) rfl #[] rfl am ?_; (with_reducible refine (bulletinlaw13_works.calls k  true _ A2.out).mono ?_); rintro e w36 ⟨rfl, hb⟩; refine ⟨_, rfl, ?_⟩; have n0_ := Aside0.mk (below_step bw hb); clear HB; have HB := n0_; clear n0_; (try clear hb); (try clear hb2); (try clear hk); (try clear hi)) | ((with_reducible refine gate_callee (f := 35) rfl ?_); refine goesL_ (some 16) rfl rfl Tryd.func35 (by kernel_rfl) rfl #[.string a0] rfl am ?_; (with_reducible refine (addr_Parse.calls k a0 t505 t506 t507 _ A6.out).mono ?_); rintro e w37 ⟨rfl, hb⟩; refine ⟨_, rfl, ?_⟩; have n0_ := Aside0.mk (below_step bw hb); clear HB; have HB := n0_; clear n0_; (try clear hb); (try clear hb2); (try clear hk); (try clear hi)) | ((with_reducible refine gate_dst (N := 3) rfl ?_); refine box_event ?hg (N := 3) ?hd (cs := #[.string (⟨#[]⟩ : ByteArray), .string (⟨#[]⟩ : ByteArray)]) (t := 32) ?hr ?_; (case hd => rfl); (case hg => rfl); (case hr => first | (go_simp; done) | (go_simp; rfl)); intro gb508 hg w38 hbox hb; have n0_ := Aside0.mk (below_step bw hb); have n1_ := Aside0.mk (hbox); have n2_ := Aside0.mk ((by rw [hg]; exact (below_size bw) : w.heap.size ≤ gb508)); have n3_ := Aside0.mk ((by rw [hg]; exact (below_size bw) : w.heap.size ≤ gb508)); clear HB; have HB := n0_; have BK508 := n1_; have GW508 := n2_; have GE508 := n3_; clear n0_ n1_ n2_ n3_; clear hb hbox hg; have hcz39_0 : w38.cell? ⟨gb508, 0, none⟩ = some (.string (⟨#[]⟩ : ByteArray)) := (blk_cell BK508.out 0).trans rfl; have hcz39_1 : w38.cell? ⟨gb508, 1, none⟩ = some (.string (⟨#[]⟩ : ByteArray)) := (blk_cell BK508.out 1).trans rfl; have hfz39_0 := blk_frozen BK508.out 0; have hfz39_1 := blk_frozen BK508.out 1) | ((with_reducible refine gate_callee (f := 36) rfl ?_); refine goesL_ (some 21) rfl rfl Tryd.func36 (by kernel_rfl) rfl #[.string a0] rfl am ?_; (with_reducible refine (addr_Strict.calls k a0 t509 t510 t511 _ A7.out).mono ?_); rintro e w40 ⟨rfl, hb⟩; refine ⟨_, rfl, ?_⟩; have n0_ := Aside0.mk (blk_below (g := gb508) (o := .cells #[.string t505, .string t506] 32 (0, 0)) (by (with_reducible repeat (first | refine blk_drewN ?_ _ | refine blk_drew ?_ | refine blk_alloc ?_ _)); refine blk_put (cs := #[.string t505, .string (⟨#[]⟩ : ByteArray)]) ?_ 1 _ rfl; (with_reducible repeat (first | refine blk_drewN ?_ _ | refine blk_drew ?_ | refine blk_alloc ?_ _)); refine blk_put (cs := #[.string (⟨#[]⟩ : ByteArray), .string (⟨#[]⟩ : ByteArray)]) ?_ 0 _ rfl; (with_reducible repeat (first | refine blk_drewN ?_ _ | refine blk_drew ?_ | refine blk_alloc ?_ _)); exact BK508.out) hb); have n1_ := Aside0.mk (below_step bwS hb); clear BK508; clear HB; have BK508 := n0_; have HB := n1_; clear n0_ n1_; (try clear hb); (try clear hb2); (try clear hk); (try clear hi)) | ((with_reducible refine gate_dst (N := 5) rfl ?_); refine box_event ?hg (N := 5) ?hd (cs := #[.string (⟨#[]⟩ : ByteArray), .string (⟨#[]⟩ : ByteArray)]) (t := 32) ?hr ?_; (case hd => rfl); (case hg => rfl); (case hr => first | (go_simp; done) | (go_simp; rfl)); intro gb512 hg w41 hbox hb; have n0_ := Aside0.mk (blk_below (g := gb508) (o := .cells #[.string t505, .string t506] 32 (0, 0)) bk hb); have n1_ := Aside0.mk (below_step bwS hb); have n2_ := Aside0.mk (hbox); have n3_ := Aside0.mk ((by rw [hg]; exact (below_size bwS) : w.heap.size ≤ gb512)); have n4_ := Aside0.mk ((by rw [hg]; exact (below_size bwS) : w.heap.size ≤ gb512)); have n5_ := Aside0.mk ((by rw [hg]; exact Nat.ne_of_lt (blk_lt (g := gb508) (o := .cells #[.string t505, .string t506] 32 (0, 0)) bk) : gb508 ≠ gb512)); have n6_ := Aside0.mk ((by rw [hg]; exact Nat.ne_of_gt (blk_lt (g := gb508) (o := .cells #[.string t505, .string t506] 32 (0, 0)) bk) : gb512 ≠ gb508)); clear BK508; clear HB; have BK508 := n0_; have HB := n1_; have BK512 := n2_; have GW512 := n3_; have GE512 := n4_; have NB508_512 := n5_; have NB512_508 := n6_; clear n0_ n1_ n2_ n3_ n4_ n5_ n6_; clear hb hbox hg; have hnb42 := NB512_508.out; have hnc42 := NB508_512.out; have hcz43_0 : w41.cell? ⟨gb512, 0, none⟩ = some (.string (⟨#[]⟩ : ByteArray)) := (blk_cell BK512.out 0).trans rfl; have hcz43_1 : w41.cell? ⟨gb512, 1, none⟩ = some (.string (⟨#[]⟩ : ByteArray)) := (blk_cell BK512.out 1).trans rfl; have hfz43_0 := blk_frozen BK512.out 0; have hfz43_1 := blk_frozen BK512.out 1; have hcz44_0 : w41.cell? ⟨gb508, 0, none⟩ = some (.string t505) := (blk_cell BK508.out 0).trans rfl; have hcz44_1 : w41.cell? ⟨gb508, 1, none⟩ = some (.string t506) := (blk_cell BK508.out 1).trans rfl; have hfz44_0 := blk_frozen BK508.out 0; have hfz44_1 := blk_frozen BK508.out 1) | ((with_reducible refine gate_callee (f := 29) rfl ?_); refine goesL_ (some 41) rfl rfl Tryd.func29 (by kernel_rfl) rfl #[.agg #[.string t505, .string t506]] rfl am ?_; (with_reducible refine (addr_Addr_Text.calls k t505 t506 t513 _ A9.out).mono ?_); rintro e w45 ⟨rfl, hb⟩; refine ⟨_, rfl, ?_⟩; have n0_ := Aside0.mk (blk_below (g := gb508) (o := .cells #[.string t505, .string t506] 32 (0, 0)) (by (with_reducible repeat (first | refine blk_drewN ?_ _ | refine blk_drew ?_ | refine blk_alloc ?_ _)); refine blk_far ?_ NB508_512.out _; (with_reducible repeat (first | refine blk_drewN ?_ _ | refine blk_drew ?_ | refine blk_alloc ?_ _)); refine blk_far ?_ NB508_512.out _; (with_reducible repeat (first | refine blk_drewN ?_ _ | refine blk_drew ?_ | refine blk_alloc ?_ _)); exact BK508.out) hb); have n1_ := Aside0.mk (blk_below (g := gb512) (o := .cells #[.string t509, .string t510] 32 (0, 0)) (by (with_reducible repeat (first | refine blk_drewN ?_ _ | refine blk_drew ?_ | refine blk_alloc ?_ _)); refine blk_put (cs := #[.string t509, .string (⟨#[]⟩ : ByteArray)]) ?_ 1 _ rfl; (with_reducible repeat (first | refine blk_drewN ?_ _ | refine blk_drew ?_ | refine blk_alloc ?_ _)); refine blk_put (cs := #[.string (⟨#[]⟩ : ByteArray), .string (⟨#[]⟩ : ByteArray)]) ?_ 0 _ rfl; (with_reducible repeat (first | refine blk_drewN ?_ _ | refine blk_drew ?_ | refine blk_alloc ?_ _)); exact BK512.out) hb); have n2_ := Aside0.mk (below_step (by repeat (first | (with_reducible first | exact HB.out | apply below_alloc | apply pw_below_drewN | apply below_drew1 | refine below_set ?_ GE508.out | refine below_set ?_ GE512.out) | exact HB.out)) hb); clear BK508; clear BK512; clear HB; have BK508 := n0_; have BK512 := n1_; have HB := n2_; clear n0_ n1_ n2_; (try clear hb); (try clear hb2); (try clear hk); (try clear hi)) | ((with_reducible refine gate_callee (f := 35) rfl ?_); refine goesL_ (some 42) rfl rfl Tryd.func35 (by kernel_rfl) rfl #[.string t513] rfl am ?_; (with_reducible refine (addr_Parse.calls k t513 t514 t515 t516 _ A10.out).mono ?_); rintro e w46 ⟨rfl, hb⟩; refine ⟨_, rfl, ?_⟩; have n0_ := Aside0.mk (blk_below (g := gb508) (o := .cells #[.string t505, .string t506] 32 (0, 0)) bk hb); have n1_ := Aside0.mk (blk_below (g := gb512) (o := .cells #[.string t509, .string t510] 32 (0, 0)) bk hb); have n2_ := Aside0.mk (below_step (by repeat (first | (with_reducible first | exact HB.out | apply below_alloc | apply pw_below_drewN | apply below_drew1 | refine below_set ?_ GE508.out | refine below_set ?_ GE512.out) | exact HB.out)) hb); clear BK508; clear BK512; clear HB; have BK508 := n0_; have BK512 := n1_; have HB := n2_; clear n0_ n1_ n2_; (try clear hb); (try clear hb2); (try clear hk); (try clear hi)) | ((with_reducible refine gate_dst (N := 7) rfl ?_); refine box_event ?hg (N := 7) ?hd (cs := #[.string (⟨#[]⟩ : ByteArray), .string (⟨#[]⟩ : ByteArray)]) (t := 32) ?hr ?_; (case hd => rfl); (case hg => rfl); (case hr => first | (go_simp; done) | (go_simp; rfl)); intro gb517 hg w47 hbox hb; have n0_ := Aside0.mk (blk_below (g := gb508) (o := .cells #[.string t505, .string t506] 32 (0, 0)) bk hb); have n1_ := Aside0.mk (blk_below (g := gb512) (o := .cells #[.string t509, .string t510] 32 (0, 0)) bk hb); have n2_ := Aside0.mk (below_step (by repeat (first | (with_reducible first | exact HB.out | apply below_alloc | apply pw_below_drewN | apply below_drew1 | refine below_set ?_ GE508.out | refine below_set ?_ GE512.out) | exact HB.out)) hb); have n3_ := Aside0.mk (hbox); have n4_ := Aside0.mk ((by rw [hg]; exact (below_size (by repeat (first | (with_reducible first | exact HB.out | apply below_alloc | apply pw_below_drewN | apply below_drew1 | refine below_set ?_ GE508.out | refine below_set ?_ GE512.out) | exact HB.out))) : w.heap.size ≤ gb517)); have n5_ := Aside0.mk ((by rw [hg]; exact (below_size (by repeat (first | (with_reducible first | exact HB.out | apply below_alloc | apply pw_below_drewN | apply below_drew1 | refine below_set ?_ GE508.out | refine below_set ?_ GE512.out) | exact HB.out))) : w.heap.size ≤ gb517)); have n6_ := Aside0.mk ((by rw [hg]; exact Nat.ne_of_lt (blk_lt (g := gb508) (o := .cells #[.string t505, .string t506] 32 (0, 0)) bk) : gb508 ≠ gb517)); have n7_ := Aside0.mk ((by rw [hg]; exact Nat.ne_of_gt (blk_lt (g := gb508) (o := .cells #[.string t505, .string t506] 32 (0, 0)) bk) : gb517 ≠ gb508)); have n8_ := Aside0.mk ((by rw [hg]; exact Nat.ne_of_lt (blk_lt (g := gb512) (o := .cells #[.string t509, .string t510] 32 (0, 0)) bk) : gb512 ≠ gb517)); have n9_ := Aside0.mk ((by rw [hg]; exact Nat.ne_of_gt (blk_lt (g := gb512) (o := .cells #[.string t509, .string t510] 32 (0, 0)) bk) : gb517 ≠ gb512)); clear BK508; clear BK512; clear HB; have BK508 := n0_; have BK512 := n1_; have HB := n2_; have BK517 := n3_; have GW517 := n4_; have GE517 := n5_; have NB508_517 := n6_; have NB517_508 := n7_; have NB512_517 := n8_; have NB517_512 := n9_; clear n0_ n1_ n2_ n3_ n4_ n5_ n6_ n7_ n8_ n9_; clear hb hbox hg; have hnb48 := NB517_508.out; have hnc48 := NB508_517.out; have hnb49 := NB517_512.out; have hnc49 := NB512_517.out; have hcz50_0 : w47.cell? ⟨gb517, 0, none⟩ = some (.string (⟨#[]⟩ : ByteArray)) := (blk_cell BK517.out 0).trans rfl; have hcz50_1 : w47.cell? ⟨gb517, 1, none⟩ = some (.string (⟨#[]⟩ : ByteArray)) := (blk_cell BK517.out 1).trans rfl; have hfz50_0 := blk_frozen BK517.out 0; have hfz50_1 := blk_frozen BK517.out 1; have hcz51_0 : w47.cell? ⟨gb508, 0, none⟩ = some (.string t505) := (blk_cell BK508.out 0).trans rfl; have hcz51_1 : w47.cell? ⟨gb508, 1, none⟩ = some (.string t506) := (blk_cell BK508.out 1).trans rfl; have hfz51_0 := blk_frozen BK508.out 0; have hfz51_1 := blk_frozen BK508.out 1) | ((with_reducible refine gate_callee (f := 25) rfl ?_); refine goesL_ (some 46) rfl rfl Tryd.func25 (by kernel_rfl) rfl #[.agg #[.string t505, .string t506]] rfl am ?_; (with_reducible refine (addr_Addr_Right.calls k t505 t506 true _ A11.out).mono ?_); rintro e w52 ⟨rfl, hb⟩; refine ⟨_, rfl, ?_⟩; have n0_ := Aside0.mk (blk_below (g := gb508) (o := .cells #[.string t505, .string t506] 32 (0, 0)) (by (with_reducible repeat (first | refine blk_drewN ?_ _ | refine blk_drew ?_ | refine blk_alloc ?_ _)); refine blk_far ?_ NB508_517.out _; (with_reducible repeat (first | refine blk_drewN ?_ _ | refine blk_drew ?_ | refine blk_alloc ?_ _)); refine blk_far ?_ NB508_517.out _; (with_reducible repeat (first | refine blk_drewN ?_ _ | refine blk_drew ?_ | refine blk_alloc ?_ _)); exact BK508.out) hb); have n1_ := Aside0.mk (blk_below (g := gb512) (o := .cells #[.string t509, .string t510] 32 (0, 0)) (by (with_reducible repeat (first | refine blk_drewN ?_ _ | refine blk_drew ?_ | refine blk_alloc ?_ _)); refine blk_far ?_ NB512_517.out _; (with_reducible repeat (first | refine blk_drewN ?_ _ | refine blk_drew ?_ | refine blk_alloc ?_ _)); refine blk_far ?_ NB512_517.out _; (with_reducible repeat (first | refine blk_drewN ?_ _ | refine blk_drew ?_ | refine blk_alloc ?_ _)); exact BK512.out) hb); have n2_ := Aside0.mk (blk_below (g := gb517) (o := .cells #[.string t514, .string t515] 32 (0, 0)) (by (with_reducible repeat (first | refine blk_drewN ?_ _ | refine blk_drew ?_ | refine blk_alloc ?_ _)); refine blk_put (cs := #[.string t514, .string (⟨#[]⟩ : ByteArray)]) ?_ 1 _ rfl; (with_reducible repeat (first | refine blk_drewN ?_ _ | refine blk_drew ?_ | refine blk_alloc ?_ _)); refine blk_put (cs := #[.string (⟨#[]⟩ : ByteArray), .string (⟨#[]⟩ : ByteArray)]) ?_ 0 _ rfl; (with_reducible repeat (first | refine blk_drewN ?_ _ | refine blk_drew ?_ | refine blk_alloc ?_ _)); exact BK517.out) hb); have n3_ := Aside0.mk (below_step (by repeat (first | (with_reducible first | exact HB.out | apply below_alloc | apply pw_below_drewN | apply below_drew1 | refine below_set ?_ GE508.out | refine below_set ?_ GE512.out | refine below_set ?_ GE517.out) | exact HB.out)) hb); clear BK508; clear BK512; clear BK517; clear HB; have BK508 := n0_; have BK512 := n1_; have BK517 := n2_; have HB := n3_; clear n0_ n1_ n2_ n3_; (try clear hb); (try clear hb2); (try clear hk); (try clear hi); have hcz53_0 : w52.cell? ⟨gb517, 0, none⟩ = some (.string t514) := (blk_cell BK517.out 0).trans rfl; have hcz53_1 : w52.cell? ⟨gb517, 1, none⟩ = some (.string t515) := (blk_cell BK517.out 1).trans rfl; have hfz53_0 := blk_frozen BK517.out 0; have hfz53_1 := blk_frozen BK517.out 1; have hcz54_0 : w52.cell? ⟨gb508, 0, none⟩ = some (.string t505) := (blk_cell BK508.out 0).trans rfl; have hcz54_1 : w52.cell? ⟨gb508, 1, none⟩ = some (.string t506) := (blk_cell BK508.out 1).trans rfl; have hfz54_0 := blk_frozen BK508.out 0; have hfz54_1 := blk_frozen BK508.out 1))
        go_ret
        exact ⟨by first | rfl | (simp [errW_none, errW_some] <;> rfl) | (simp [*, errW_none, errW_some] <;> rfl), by repeat (first | (with_reducible first | exact HB.out | apply below_alloc | apply pw_below_drewN | apply below_drew1 | refine below_set ?_ GE508.out | refine below_set ?_ GE512.out | refine below_set ?_ GE517.out) | exact HB.out)⟩
      ·rw [if_neg c14] at H
       have c14b0 : (t514.toList == t505.toList && (t515.toList == t506.toList)) = false := by simpa using c14
       (try (have c14b1 : decide (t514.toList = t505.toList && (t515.toList == t506.toList)) = false := by simpa using c14))
       (try (have c14b2 : (t514.toList == t505.toList && (t515.toList == t506.toList)) = false := by simpa using c14))
       (try (have c14b3 : ¬ (t514.toList = t505.toList && (t515.toList == t506.toList)) := by simpa using c14))
       clear c14
       obtain rfl := Option.some.inj H
       go_enter Tryd.func8, Tryd.ntmps8
       go_wp2_with (first | ((with_reducible refine gate_callee (f := 23) rfl ?_); refine goesL_ (some 9) rfl rfl Tryd.func23 (by kernel_rfl) rfl #[] rfl am ?_; (with_reducible refine (bulletinlaw13_works.calls k  true _ A2.out).mono ?_); rintro e w55 ⟨rfl, hb⟩; refine ⟨_, rfl, ?_⟩; have n0_ := Aside0.mk (below_step bw hb); clear HB; have HB := n0_; clear n0_; (try clear hb); (try clear hb2); (try clear hk); (try clear hi)) | ((with_reducible refine gate_callee (f := 35) rfl ?_); refine goesL_ (some 16) rfl rfl Tryd.func35 (by kernel_rfl) rfl #[.string a0] rfl am ?_; (with_reducible refine (addr_Parse.calls k a0 t505 t506 t507 _ A6.out).mono ?_); rintro e w56 ⟨rfl, hb⟩; refine ⟨_, rfl, ?_⟩; have n0_ := Aside0.mk (below_step bw hb); clear HB; have HB := n0_; clear n0_; (try clear hb); (try clear hb2); (try clear hk); (try clear hi)) | ((with_reducible refine gate_dst (N := 3) rfl ?_); refine box_event ?hg (N := 3) ?hd (cs := #[.string (⟨#[]⟩ : ByteArray), .string (⟨#[]⟩ : ByteArray)]) (t := 32) ?hr ?_; (case hd => rfl); (case hg => rfl); (case hr => first | (go_simp; done) | (go_simp; rfl)); intro gb508 hg w57 hbox hb; have n0_ := Aside0.mk (below_step bw hb); have n1_ := Aside0.mk (hbox); have n2_ := Aside0.mk ((by rw [hg]; exact (below_size bw) : w.heap.size ≤ gb508)); have n3_ := Aside0.mk ((by rw [hg]; exact (below_size bw) : w.heap.size ≤ gb508)); clear HB; have HB := n0_; have BK508 := n1_; have GW508 := n2_; have GE508 := n3_; clear n0_ n1_ n2_ n3_; clear hb hbox hg; have hcz58_0 : w57.cell? ⟨gb508, 0, none⟩ = some (.string (⟨#[]⟩ : ByteArray)) := (blk_cell BK508.out 0).trans rfl; have hcz58_1 : w57.cell? ⟨gb508, 1, none⟩ = some (.string (⟨#[]⟩ : ByteArray)) := (blk_cell BK508.out 1).trans rfl; have hfz58_0 := blk_frozen BK508.out 0; have hfz58_1 := blk_frozen BK508.out 1) | ((with_reducible refine gate_callee (f := 36) rfl ?_); refine goesL_ (some 21) rfl rfl Tryd.func36 (by kernel_rfl) rfl #[.string a0] rfl am ?_; (with_reducible refine (addr_Strict.calls k a0 t509 t510 t511 _ A7.out).mono ?_); rintro e w59 ⟨rfl, hb⟩; refine ⟨_, rfl, ?_⟩; have n0_ := Aside0.mk (blk_below (g := gb508) (o := .cells #[.string t505, .string t506] 32 (0, 0)) (by (with_reducible repeat (first | refine blk_drewN ?_ _ | refine blk_drew ?_ | refine blk_alloc ?_ _)); refine blk_put (cs := #[.string t505, .string (⟨#[]⟩ : ByteArray)]) ?_ 1 _ rfl; (with_reducible repeat (first | refine blk_drewN ?_ _ | refine blk_drew ?_ | refine blk_alloc ?_ _)); refine blk_put (cs := #[.string (⟨#[]⟩ : ByteArray), .string (⟨#[]⟩ : ByteArray)]) ?_ 0 _ rfl; (with_reducible repeat (first | refine blk_drewN ?_ _ | refine blk_drew ?_ | refine blk_alloc ?_ _)); exact BK508.out) hb); have n1_ := Aside0.mk (below_step bwS hb); clear BK508; clear HB; have BK508 := n0_; have HB := n1_; clear n0_ n1_; (try clear hb); (try clear hb2); (try clear hk); (try clear hi)) | ((with_reducible refine gate_dst (N := 5) rfl ?_); refine box_event ?hg (N := 5) ?hd (cs := #[.string (⟨#[]⟩ : ByteArray), .string (⟨#[]⟩ : ByteArray)]) (t := 32) ?hr ?_; (case hd => rfl); (case hg => rfl); (case hr => first | (go_simp; done) | (go_simp; rfl)); intro gb512 hg w60 hbox hb; have n0_ := Aside0.mk (blk_below (g := gb508) (o := .cells #[.string t505, .string t506] 32 (0, 0)) bk hb); have n1_ := Aside0.mk (below_step bwS hb); have n2_ := Aside0.mk (hbox); have n3_ := Aside0.mk ((by rw [hg]; exact (below_size bwS) : w.heap.size ≤ gb512)); have n4_ := Aside0.mk ((by rw [hg]; exact (below_size bwS) : w.heap.size ≤ gb512)); have n5_ := Aside0.mk ((by rw [hg]; exact Nat.ne_of_lt (blk_lt (g := gb508) (o := .cells #[.string t505, .string t506] 32 (0, 0)) bk) : gb508 ≠ gb512)); have n6_ := Aside0.mk ((by rw [hg]; exact Nat.ne_of_gt (blk_lt (g := gb508) (o := .cells #[.string t505, .string t506] 32 (0, 0)) bk) : gb512 ≠ gb508)); clear BK508; clear HB; have BK508 := n0_; have HB := n1_; have BK512 := n2_; have GW512 := n3_; have GE512 := n4_; have NB508_512 := n5_; have NB512_508 := n6_; clear n0_ n1_ n2_ n3_ n4_ n5_ n6_; clear hb hbox hg; have hnb61 := NB512_508.out; have hnc61 := NB508_512.out; have hcz62_0 : w60.cell? ⟨gb512, 0, none⟩ = some (.string (⟨#[]⟩ : ByteArray)) := (blk_cell BK512.out 0).trans rfl; have hcz62_1 : w60.cell? ⟨gb512, 1, none⟩ = some (.string (⟨#[]⟩ : ByteArray)) := (blk_cell BK512.out 1).trans rfl; have hfz62_0 := blk_frozen BK512.out 0; have hfz62_1 := blk_frozen BK512.out 1; have hcz63_0 : w60.cell? ⟨gb508, 0, none⟩ = some (.string t505) := (blk_cell BK508.out 0).trans rfl; have hcz63_1 : w60.cell? ⟨gb508, 1, none⟩ = some (.string t506) := (blk_cell BK508.out 1).trans rfl; have hfz63_0 := blk_frozen BK508.out 0; have hfz63_1 := blk_frozen BK508.out 1) | ((with_reducible refine gate_callee (f := 29) rfl ?_); refine goesL_ (some 41) rfl rfl Tryd.func29 (by kernel_rfl) rfl #[.agg #[.string t505, .string t506]] rfl am ?_; (with_reducible refine (addr_Addr_Text.calls k t505 t506 t513 _ A9.out).mono ?_); rintro e w64 ⟨rfl, hb⟩; refine ⟨_, rfl, ?_⟩; have n0_ := Aside0.mk (blk_below (g := gb508) (o := .cells #[.string t505, .string t506] 32 (0, 0)) (by (with_reducible repeat (first | refine blk_drewN ?_ _ | refine blk_drew ?_ | refine blk_alloc ?_ _)); refine blk_far ?_ NB508_512.out _; (with_reducible repeat (first | refine blk_drewN ?_ _ | refine blk_drew ?_ | refine blk_alloc ?_ _)); refine blk_far ?_ NB508_512.out _; (with_reducible repeat (first | refine blk_drewN ?_ _ | refine blk_drew ?_ | refine blk_alloc ?_ _)); exact BK508.out) hb); have n1_ := Aside0.mk (blk_below (g := gb512) (o := .cells #[.string t509, .string t510] 32 (0, 0)) (by (with_reducible repeat (first | refine blk_drewN ?_ _ | refine blk_drew ?_ | refine blk_alloc ?_ _)); refine blk_put (cs := #[.string t509, .string (⟨#[]⟩ : ByteArray)]) ?_ 1 _ rfl; (with_reducible repeat (first | refine blk_drewN ?_ _ | refine blk_drew ?_ | refine blk_alloc ?_ _)); refine blk_put (cs := #[.string (⟨#[]⟩ : ByteArray), .string (⟨#[]⟩ : ByteArray)]) ?_ 0 _ rfl; (with_reducible repeat (first | refine blk_drewN ?_ _ | refine blk_drew ?_ | refine blk_alloc ?_ _)); exact BK512.out) hb); have n2_ := Aside0.mk (below_step (by repeat (first | (with_reducible first | exact HB.out | apply below_alloc | apply pw_below_drewN | apply below_drew1 | refine below_set ?_ GE508.out | refine below_set ?_ GE512.out) | exact HB.out)) hb); clear BK508; clear BK512; clear HB; have BK508 := n0_; have BK512 := n1_; have HB := n2_; clear n0_ n1_ n2_; (try clear hb); (try clear hb2); (try clear hk); (try clear hi)) | ((with_reducible refine gate_callee (f := 35) rfl ?_); refine goesL_ (some 42) rfl rfl Tryd.func35 (by kernel_rfl) rfl #[.string t513] rfl am ?_; (with_reducible refine (addr_Parse.calls k t513 t514 t515 t516 _ A10.out).mono ?_); rintro e w65 ⟨rfl, hb⟩; refine ⟨_, rfl, ?_⟩; have n0_ := Aside0.mk (blk_below (g := gb508) (o := .cells #[.string t505, .string t506] 32 (0, 0)) bk hb); have n1_ := Aside0.mk (blk_below (g := gb512) (o := .cells #[.string t509, .string t510] 32 (0, 0)) bk hb); have n2_ := Aside0.mk (below_step (by repeat (first | (with_reducible first | exact HB.out | apply below_alloc | apply pw_below_drewN | apply below_drew1 | refine below_set ?_ GE508.out | refine below_set ?_ GE512.out) | exact HB.out)) hb); clear BK508; clear BK512; clear HB; have BK508 := n0_; have BK512 := n1_; have HB := n2_; clear n0_ n1_ n2_; (try clear hb); (try clear hb2); (try clear hk); (try clear hi)) | ((with_reducible refine gate_dst (N := 7) rfl ?_); refine box_event ?hg (N := 7) ?hd (cs := #[.string (⟨#[]⟩ : ByteArray), .string (⟨#[]⟩ : ByteArray)]) (t := 32) ?hr ?_; (case hd => rfl); (case hg => rfl); (case hr => first | (go_simp; done) | (go_simp; rfl)); intro gb517 hg w66 hbox hb; have n0_ := Aside0.mk (blk_below (g := gb508) (o := .cells #[.string t505, .string t506] 32 (0, 0)) bk hb); have n1_ := Aside0.mk (blk_below (g := gb512) (o := .cells #[.string t509, .string t510] 32 (0, 0)) bk hb); have n2_ := Aside0.mk (below_step (by repeat (first | (with_reducible first | exact HB.out | apply below_alloc | apply pw_below_drewN | apply below_drew1 | refine below_set ?_ GE508.out | refine below_set ?_ GE512.out) | exact HB.out)) hb); have n3_ := Aside0.mk (hbox); have n4_ := Aside0.mk ((by rw [hg]; exact (below_size (by repeat (first | (with_reducible first | exact HB.out | apply below_alloc | apply pw_below_drewN | apply below_drew1 | refine below_set ?_ GE508.out | refine below_set ?_ GE512.out) | exact HB.out))) : w.heap.size ≤ gb517)); have n5_ := Aside0.mk ((by rw [hg]; exact (below_size (by repeat (first | (with_reducible first | exact HB.out | apply below_alloc | apply pw_below_drewN | apply below_drew1 | refine below_set ?_ GE508.out | refine below_set ?_ GE512.out) | exact HB.out))) : w.heap.size ≤ gb517)); have n6_ := Aside0.mk ((by rw [hg]; exact Nat.ne_of_lt (blk_lt (g := gb508) (o := .cells #[.string t505, .string t506] 32 (0, 0)) bk) : gb508 ≠ gb517)); have n7_ := Aside0.mk ((by rw [hg]; exact Nat.ne_of_gt (blk_lt (g := gb508) (o := .cells #[.string t505, .string t506] 32 (0, 0)) bk) : gb517 ≠ gb508)); have n8_ := Aside0.mk ((by rw [hg]; exact Nat.ne_of_lt (blk_lt (g := gb512) (o := .cells #[.string t509, .string t510] 32 (0, 0)) bk) : gb512 ≠ gb517)); have n9_ := Aside0.mk ((by rw [hg]; exact Nat.ne_of_gt (blk_lt (g := gb512) (o := .cells #[.string t509, .string t510] 32 (0, 0)) bk) : gb517 ≠ gb512)); clear BK508; clear BK512; clear HB; have BK508 := n0_; have BK512 := n1_; have HB := n2_; have BK517 := n3_; have GW517 := n4_; have GE517 := n5_; have NB508_517 := n6_; have NB517_508 := n7_; have NB512_517 := n8_; have NB517_512 := n9_; clear n0_ n1_ n2_ n3_ n4_ n5_ n6_ n7_ n8_ n9_; clear hb hbox hg; have hnb67 := NB517_508.out; have hnc67 := NB508_517.out; have hnb68 := NB517_512.out; have hnc68 := NB512_517.out; have hcz69_0 : w66.cell? ⟨gb517, 0, none⟩ = some (.string (⟨#[]⟩ : ByteArray)) := (blk_cell BK517.out 0).trans rfl; have hcz69_1 : w66.cell? ⟨gb517, 1, none⟩ = some (.string (⟨#[]⟩ : ByteArray)) := (blk_cell BK517.out 1).trans rfl; have hfz69_0 := blk_frozen BK517.out 0; have hfz69_1 := blk_frozen BK517.out 1; have hcz70_0 : w66.cell? ⟨gb508, 0, none⟩ = some (.string t505) := (blk_cell BK508.out 0).trans rfl; have hcz70_1 : w66.cell? ⟨gb508, 1, none⟩ = some (.string t506) := (blk_cell BK508.out 1).trans rfl; have hfz70_0 := blk_frozen BK508.out 0; have hfz70_1 := blk_frozen BK508.out 1) | ((with_reducible refine gate_callee (f := 25) rfl ?_); refine goesL_ (some 46) rfl rfl Tryd.func25 (by kernel_rfl) rfl #[.agg #[.string t505, .string t506]] rfl am ?_; (with_reducible refine (addr_Addr_Right.calls k t505 t506 true _ A11.out).mono ?_); rintro e w71 ⟨rfl, hb⟩; refine ⟨_, rfl, ?_⟩; have n0_ := Aside0.mk (blk_below (g := gb508) (o := .cells #[.string t505, .string t506] 32 (0, 0)) (by (with_reducible repeat (first | refine blk_drewN ?_ _ | refine blk_drew ?_ | refine blk_alloc ?_ _)); refine blk_far ?_ NB508_517.out _; (with_reducible repeat (first | refine blk_drewN ?_ _ | refine blk_drew ?_ | refine blk_alloc ?_ _)); refine blk_far ?_ NB508_517.out _; (with_reducible repeat (first | refine blk_drewN ?_ _ | refine blk_drew ?_ | refine blk_alloc ?_ _)); exact BK508.out) hb); have n1_ := Aside0.mk (blk_below (g := gb512) (o := .cells #[.string t509, .string t510] 32 (0, 0)) (by (with_reducible repeat (first | refine blk_drewN ?_ _ | refine blk_drew ?_ | refine blk_alloc ?_ _)); refine blk_far ?_ NB512_517.out _; (with_reducible repeat (first | refine blk_drewN ?_ _ | refine blk_drew ?_ | refine blk_alloc ?_ _)); refine blk_far ?_ NB512_517.out _; (with_reducible repeat (first | refine blk_drewN ?_ _ | refine blk_drew ?_ | refine blk_alloc ?_ _)); exact BK512.out) hb); have n2_ := Aside0.mk (blk_below (g := gb517) (o := .cells #[.string t514, .string t515] 32 (0, 0)) (by (with_reducible repeat (first | refine blk_drewN ?_ _ | refine blk_drew ?_ | refine blk_alloc ?_ _)); refine blk_put (cs := #[.string t514, .string (⟨#[]⟩ : ByteArray)]) ?_ 1 _ rfl; (with_reducible repeat (first | refine blk_drewN ?_ _ | refine blk_drew ?_ | refine blk_alloc ?_ _)); refine blk_put (cs := #[.string (⟨#[]⟩ : ByteArray), .string (⟨#[]⟩ : ByteArray)]) ?_ 0 _ rfl; (with_reducible repeat (first | refine blk_drewN ?_ _ | refine blk_drew ?_ | refine blk_alloc ?_ _)); exact BK517.out) hb); have n3_ := Aside0.mk (below_step (by repeat (first | (with_reducible first | exact HB.out | apply below_alloc | apply pw_below_drewN | apply below_drew1 | refine below_set ?_ GE508.out | refine below_set ?_ GE512.out | refine below_set ?_ GE517.out) | exact HB.out)) hb); clear BK508; clear BK512; clear BK517; clear HB; have BK508 := n0_; have BK512 := n1_; have BK517 := n2_; have HB := n3_; clear n0_ n1_ n2_ n3_; (try clear hb); (try clear hb2); (try clear hk); (try clear hi); have hcz72_0 : w71.cell? ⟨gb517, 0, none⟩ = some (.string t514) := (blk_cell BK517.out 0).trans rfl; have hcz72_1 : w71.cell? ⟨gb517, 1, none⟩ = some (.string t515) := (blk_cell BK517.out 1).trans rfl; have hfz72_0 := blk_frozen BK517.out 0; have hfz72_1 := blk_frozen BK517.out 1; have hcz73_0 : w71.cell? ⟨gb508, 0, none⟩ = some (.string t505) := (blk_cell BK508.out 0).trans rfl; have hcz73_1 : w71.cell? ⟨gb508, 1, none⟩ = some (.string t506) := (blk_cell BK508.out 1).trans rfl; have hfz73_0 := blk_frozen BK508.out 0; have hfz73_1 := blk_frozen BK508.out 1))
       go_ret
       exact ⟨by first | rfl | (simp [errW_none, errW_some] <;> rfl) | (simp [*, errW_none, errW_some] <;> rfl), by repeat (first | (with_reducible first | exact HB.out | apply below_alloc | apply pw_below_drewN | apply below_drew1 | refine below_set ?_ GE508.out | refine below_set ?_ GE512.out | refine below_set ?_ GE517.out) | exact HB.out)⟩
     ·rw [if_neg c13] at H
      have c13b0 : (t516 == 0) = false := beq_eq_false_iff_ne.mpr c13
      have c13b1 : (t516 != 0) = true := bne_iff_ne.mpr c13
      obtain rfl := Option.some.inj H
      go_enter Tryd.func8, Tryd.ntmps8
      go_wp2_with (first | ((with_reducible refine gate_callee (f := 23) rfl ?_); refine goesL_ (some 9) rfl rfl Tryd.func23 (by kernel_rfl) rfl #[] rfl am ?_; (with_reducible refine (bulletinlaw13_works.calls k  true _ A2.out).mono ?_); rintro e w74 ⟨rfl, hb⟩; refine ⟨_, rfl, ?_⟩; have n0_ := Aside0.mk (below_step bw hb); clear HB; have HB := n0_; clear n0_; (try clear hb); (try clear hb2); (try clear hk); (try clear hi)) | ((with_reducible refine gate_callee (f := 35) rfl ?_); refine goesL_ (some 16) rfl rfl Tryd.func35 (by kernel_rfl) rfl #[.string a0] rfl am ?_; (with_reducible refine (addr_Parse.calls k a0 t505 t506 t507 _ A6.out).mono ?_); rintro e w75 ⟨rfl, hb⟩; refine ⟨_, rfl, ?_⟩; have n0_ := Aside0.mk (below_step bw hb); clear HB; have HB := n0_; clear n0_; (try clear hb); (try clear hb2); (try clear hk); (try clear hi)) | ((with_reducible refine gate_dst (N := 3) rfl ?_); refine box_event ?hg (N := 3) ?hd (cs := #[.string (⟨#[]⟩ : ByteArray), .string (⟨#[]⟩ : ByteArray)]) (t := 32) ?hr ?_; (case hd => rfl); (case hg => rfl); (case hr => first | (go_simp; done) | (go_simp; rfl)); intro gb508 hg w76 hbox hb; have n0_ := Aside0.mk (below_step bw hb); have n1_ := Aside0.mk (hbox); have n2_ := Aside0.mk ((by rw [hg]; exact (below_size bw) : w.heap.size ≤ gb508)); have n3_ := Aside0.mk ((by rw [hg]; exact (below_size bw) : w.heap.size ≤ gb508)); clear HB; have HB := n0_; have BK508 := n1_; have GW508 := n2_; have GE508 := n3_; clear n0_ n1_ n2_ n3_; clear hb hbox hg; have hcz77_0 : w76.cell? ⟨gb508, 0, none⟩ = some (.string (⟨#[]⟩ : ByteArray)) := (blk_cell BK508.out 0).trans rfl; have hcz77_1 : w76.cell? ⟨gb508, 1, none⟩ = some (.string (⟨#[]⟩ : ByteArray)) := (blk_cell BK508.out 1).trans rfl; have hfz77_0 := blk_frozen BK508.out 0; have hfz77_1 := blk_frozen BK508.out 1) | ((with_reducible refine gate_callee (f := 36) rfl ?_); refine goesL_ (some 21) rfl rfl Tryd.func36 (by kernel_rfl) rfl #[.string a0] rfl am ?_; (with_reducible refine (addr_Strict.calls k a0 t509 t510 t511 _ A7.out).mono ?_); rintro e w78 ⟨rfl, hb⟩; refine ⟨_, rfl, ?_⟩; have n0_ := Aside0.mk (blk_below (g := gb508) (o := .cells #[.string t505, .string t506] 32 (0, 0)) (by (with_reducible repeat (first | refine blk_drewN ?_ _ | refine blk_drew ?_ | refine blk_alloc ?_ _)); refine blk_put (cs := #[.string t505, .string (⟨#[]⟩ : ByteArray)]) ?_ 1 _ rfl; (with_reducible repeat (first | refine blk_drewN ?_ _ | refine blk_drew ?_ | refine blk_alloc ?_ _)); refine blk_put (cs := #[.string (⟨#[]⟩ : ByteArray), .string (⟨#[]⟩ : ByteArray)]) ?_ 0 _ rfl; (with_reducible repeat (first | refine blk_drewN ?_ _ | refine blk_drew ?_ | refine blk_alloc ?_ _)); exact BK508.out) hb); have n1_ := Aside0.mk (below_step bwS hb); clear BK508; clear HB; have BK508 := n0_; have HB := n1_; clear n0_ n1_; (try clear hb); (try clear hb2); (try clear hk); (try clear hi)) | ((with_reducible refine gate_dst (N := 5) rfl ?_); refine box_event ?hg (N := 5) ?hd (cs := #[.string (⟨#[]⟩ : ByteArray), .string (⟨#[]⟩ : ByteArray)]) (t := 32) ?hr ?_; (case hd => rfl); (case hg => rfl); (case hr => first | (go_simp; done) | (go_simp; rfl)); intro gb512 hg w79 hbox hb; have n0_ := Aside0.mk (blk_below (g := gb508) (o := .cells #[.string t505, .string t506] 32 (0, 0)) bk hb); have n1_ := Aside0.mk (below_step bwS hb); have n2_ := Aside0.mk (hbox); have n3_ := Aside0.mk ((by rw [hg]; exact (below_size bwS) : w.heap.size ≤ gb512)); have n4_ := Aside0.mk ((by rw [hg]; exact (below_size bwS) : w.heap.size ≤ gb512)); have n5_ := Aside0.mk ((by rw [hg]; exact Nat.ne_of_lt (blk_lt (g := gb508) (o := .cells #[.string t505, .string t506] 32 (0, 0)) bk) : gb508 ≠ gb512)); have n6_ := Aside0.mk ((by rw [hg]; exact Nat.ne_of_gt (blk_lt (g := gb508) (o := .cells #[.string t505, .string t506] 32 (0, 0)) bk) : gb512 ≠ gb508)); clear BK508; clear HB; have BK508 := n0_; have HB := n1_; have BK512 := n2_; have GW512 := n3_; have GE512 := n4_; have NB508_512 := n5_; have NB512_508 := n6_; clear n0_ n1_ n2_ n3_ n4_ n5_ n6_; clear hb hbox hg; have hnb80 := NB512_508.out; have hnc80 := NB508_512.out; have hcz81_0 : w79.cell? ⟨gb512, 0, none⟩ = some (.string (⟨#[]⟩ : ByteArray)) := (blk_cell BK512.out 0).trans rfl; have hcz81_1 : w79.cell? ⟨gb512, 1, none⟩ = some (.string (⟨#[]⟩ : ByteArray)) := (blk_cell BK512.out 1).trans rfl; have hfz81_0 := blk_frozen BK512.out 0; have hfz81_1 := blk_frozen BK512.out 1; have hcz82_0 : w79.cell? ⟨gb508, 0, none⟩ = some (.string t505) := (blk_cell BK508.out 0).trans rfl; have hcz82_1 : w79.cell? ⟨gb508, 1, none⟩ = some (.string t506) := (blk_cell BK508.out 1).trans rfl; have hfz82_0 := blk_frozen BK508.out 0; have hfz82_1 := blk_frozen BK508.out 1) | ((with_reducible refine gate_callee (f := 29) rfl ?_); refine goesL_ (some 41) rfl rfl Tryd.func29 (by kernel_rfl) rfl #[.agg #[.string t505, .string t506]] rfl am ?_; (with_reducible refine (addr_Addr_Text.calls k t505 t506 t513 _ A9.out).mono ?_); rintro e w83 ⟨rfl, hb⟩; refine ⟨_, rfl, ?_⟩; have n0_ := Aside0.mk (blk_below (g := gb508) (o := .cells #[.string t505, .string t506] 32 (0, 0)) (by (with_reducible repeat (first | refine blk_drewN ?_ _ | refine blk_drew ?_ | refine blk_alloc ?_ _)); refine blk_far ?_ NB508_512.out _; (with_reducible repeat (first | refine blk_drewN ?_ _ | refine blk_drew ?_ | refine blk_alloc ?_ _)); refine blk_far ?_ NB508_512.out _; (with_reducible repeat (first | refine blk_drewN ?_ _ | refine blk_drew ?_ | refine blk_alloc ?_ _)); exact BK508.out) hb); have n1_ := Aside0.mk (blk_below (g := gb512) (o := .cells #[.string t509, .string t510] 32 (0, 0)) (by (with_reducible repeat (first | refine blk_drewN ?_ _ | refine blk_drew ?_ | refine blk_alloc ?_ _)); refine blk_put (cs := #[.string t509, .string (⟨#[]⟩ : ByteArray)]) ?_ 1 _ rfl; (with_reducible repeat (first | refine blk_drewN ?_ _ | refine blk_drew ?_ | refine blk_alloc ?_ _)); refine blk_put (cs := #[.string (⟨#[]⟩ : ByteArray), .string (⟨#[]⟩ : ByteArray)]) ?_ 0 _ rfl; (with_reducible repeat (first | refine blk_drewN ?_ _ | refine blk_drew ?_ | refine blk_alloc ?_ _)); exact BK512.out) hb); have n2_ := Aside0.mk (below_step (by repeat (first | (with_reducible first | exact HB.out | apply below_alloc | apply pw_below_drewN | apply below_drew1 | refine below_set ?_ GE508.out | refine below_set ?_ GE512.out) | exact HB.out)) hb); clear BK508; clear BK512; clear HB; have BK508 := n0_; have BK512 := n1_; have HB := n2_; clear n0_ n1_ n2_; (try clear hb); (try clear hb2); (try clear hk); (try clear hi)) | ((with_reducible refine gate_callee (f := 35) rfl ?_); refine goesL_ (some 42) rfl rfl Tryd.func35 (by kernel_rfl) rfl #[.string t513] rfl am ?_; (with_reducible refine (addr_Parse.calls k t513 t514 t515 t516 _ A10.out).mono ?_); rintro e w84 ⟨rfl, hb⟩; refine ⟨_, rfl, ?_⟩; have n0_ := Aside0.mk (blk_below (g := gb508) (o := .cells #[.string t505, .string t506] 32 (0, 0)) bk hb); have n1_ := Aside0.mk (blk_below (g := gb512) (o := .cells #[.string t509, .string t510] 32 (0, 0)) bk hb); have n2_ := Aside0.mk (below_step (by repeat (first | (with_reducible first | exact HB.out | apply below_alloc | apply pw_below_drewN | apply below_drew1 | refine below_set ?_ GE508.out | refine below_set ?_ GE512.out) | exact HB.out)) hb); clear BK508; clear BK512; clear HB; have BK508 := n0_; have BK512 := n1_; have HB := n2_; clear n0_ n1_ n2_; (try clear hb); (try clear hb2); (try clear hk); (try clear hi)) | ((with_reducible refine gate_dst (N := 7) rfl ?_); refine box_event ?hg (N := 7) ?hd (cs := #[.string (⟨#[]⟩ : ByteArray), .string (⟨#[]⟩ : ByteArray)]) (t := 32) ?hr ?_; (case hd => rfl); (case hg => rfl); (case hr => first | (go_simp; done) | (go_simp; rfl)); intro gb517 hg w85 hbox hb; have n0_ := Aside0.mk (blk_below (g := gb508) (o := .cells #[.string t505, .string t506] 32 (0, 0)) bk hb); have n1_ := Aside0.mk (blk_below (g := gb512) (o := .cells #[.string t509, .string t510] 32 (0, 0)) bk hb); have n2_ := Aside0.mk (below_step (by repeat (first | (with_reducible first | exact HB.out | apply below_alloc | apply pw_below_drewN | apply below_drew1 | refine below_set ?_ GE508.out | refine below_set ?_ GE512.out) | exact HB.out)) hb); have n3_ := Aside0.mk (hbox); have n4_ := Aside0.mk ((by rw [hg]; exact (below_size (by repeat (first | (with_reducible first | exact HB.out | apply below_alloc | apply pw_below_drewN | apply below_drew1 | refine below_set ?_ GE508.out | refine below_set ?_ GE512.out) | exact HB.out))) : w.heap.size ≤ gb517)); have n5_ := Aside0.mk ((by rw [hg]; exact (below_size (by repeat (first | (with_reducible first | exact HB.out | apply below_alloc | apply pw_below_drewN | apply below_drew1 | refine below_set ?_ GE508.out | refine below_set ?_ GE512.out) | exact HB.out))) : w.heap.size ≤ gb517)); have n6_ := Aside0.mk ((by rw [hg]; exact Nat.ne_of_lt (blk_lt (g := gb508) (o := .cells #[.string t505, .string t506] 32 (0, 0)) bk) : gb508 ≠ gb517)); have n7_ := Aside0.mk ((by rw [hg]; exact Nat.ne_of_gt (blk_lt (g := gb508) (o := .cells #[.string t505, .string t506] 32 (0, 0)) bk) : gb517 ≠ gb508)); have n8_ := Aside0.mk ((by rw [hg]; exact Nat.ne_of_lt (blk_lt (g := gb512) (o := .cells #[.string t509, .string t510] 32 (0, 0)) bk) : gb512 ≠ gb517)); have n9_ := Aside0.mk ((by rw [hg]; exact Nat.ne_of_gt (blk_lt (g := gb512) (o := .cells #[.string t509, .string t510] 32 (0, 0)) bk) : gb517 ≠ gb512)); clear BK508; clear BK512; clear HB; have BK508 := n0_; have BK512 := n1_; have HB := n2_; have BK517 := n3_; have GW517 := n4_; have GE517 := n5_; have NB508_517 := n6_; have NB517_508 := n7_; have NB512_517 := n8_; have NB517_512 := n9_; clear n0_ n1_ n2_ n3_ n4_ n5_ n6_ n7_ n8_ n9_; clear hb hbox hg; have hnb86 := NB517_508.out; have hnc86 := NB508_517.out; have hnb87 := NB517_512.out; have hnc87 := NB512_517.out; have hcz88_0 : w85.cell? ⟨gb517, 0, none⟩ = some (.string (⟨#[]⟩ : ByteArray)) := (blk_cell BK517.out 0).trans rfl; have hcz88_1 : w85.cell? ⟨gb517, 1, none⟩ = some (.string (⟨#[]⟩ : ByteArray)) := (blk_cell BK517.out 1).trans rfl; have hfz88_0 := blk_frozen BK517.out 0; have hfz88_1 := blk_frozen BK517.out 1; have hcz89_0 : w85.cell? ⟨gb508, 0, none⟩ = some (.string t505) := (blk_cell BK508.out 0).trans rfl; have hcz89_1 : w85.cell? ⟨gb508, 1, none⟩ = some (.string t506) := (blk_cell BK508.out 1).trans rfl; have hfz89_0 := blk_frozen BK508.out 0; have hfz89_1 := blk_frozen BK508.out 1) | ((with_reducible refine gate_callee (f := 25) rfl ?_); refine goesL_ (some 46) rfl rfl Tryd.func25 (by kernel_rfl) rfl #[.agg #[.string t505, .string t506]] rfl am ?_; (with_reducible refine (addr_Addr_Right.calls k t505 t506 true _ A11.out).mono ?_); rintro e w90 ⟨rfl, hb⟩; refine ⟨_, rfl, ?_⟩; have n0_ := Aside0.mk (blk_below (g := gb508) (o := .cells #[.string t505, .string t506] 32 (0, 0)) (by (with_reducible repeat (first | refine blk_drewN ?_ _ | refine blk_drew ?_ | refine blk_alloc ?_ _)); refine blk_far ?_ NB508_517.out _; (with_reducible repeat (first | refine blk_drewN ?_ _ | refine blk_drew ?_ | refine blk_alloc ?_ _)); refine blk_far ?_ NB508_517.out _; (with_reducible repeat (first | refine blk_drewN ?_ _ | refine blk_drew ?_ | refine blk_alloc ?_ _)); exact BK508.out) hb); have n1_ := Aside0.mk (blk_below (g := gb512) (o := .cells #[.string t509, .string t510] 32 (0, 0)) (by (with_reducible repeat (first | refine blk_drewN ?_ _ | refine blk_drew ?_ | refine blk_alloc ?_ _)); refine blk_far ?_ NB512_517.out _; (with_reducible repeat (first | refine blk_drewN ?_ _ | refine blk_drew ?_ | refine blk_alloc ?_ _)); refine blk_far ?_ NB512_517.out _; (with_reducible repeat (first | refine blk_drewN ?_ _ | refine blk_drew ?_ | refine blk_alloc ?_ _)); exact BK512.out) hb); have n2_ := Aside0.mk (blk_below (g := gb517) (o := .cells #[.string t514, .string t515] 32 (0, 0)) (by (with_reducible repeat (first | refine blk_drewN ?_ _ | refine blk_drew ?_ | refine blk_alloc ?_ _)); refine blk_put (cs := #[.string t514, .string (⟨#[]⟩ : ByteArray)]) ?_ 1 _ rfl; (with_reducible repeat (first | refine blk_drewN ?_ _ | refine blk_drew ?_ | refine blk_alloc ?_ _)); refine blk_put (cs := #[.string (⟨#[]⟩ : ByteArray), .string (⟨#[]⟩ : ByteArray)]) ?_ 0 _ rfl; (with_reducible repeat (first | refine blk_drewN ?_ _ | refine blk_drew ?_ | refine blk_alloc ?_ _)); exact BK517.out) hb); have n3_ := Aside0.mk (below_step (by repeat (first | (with_reducible first | exact HB.out | apply below_alloc | apply pw_below_drewN | apply below_drew1 | refine below_set ?_ GE508.out | refine below_set ?_ GE512.out | refine below_set ?_ GE517.out) | exact HB.out)) hb); clear BK508; clear BK512; clear BK517; clear HB; have BK508 := n0_; have BK512 := n1_; have BK517 := n2_; have HB := n3_; clear n0_ n1_ n2_ n3_; (try clear hb); (try clear hb2); (try clear hk); (try clear hi)))
      go_ret
      exact ⟨by first | rfl | (simp [errW_none, errW_some] <;> rfl) | (simp [*, errW_none, errW_some] <;> rfl), by repeat (first | (with_reducible first | exact HB.out | apply below_alloc | apply pw_below_drewN | apply below_drew1 | refine below_set ?_ GE508.out | refine below_set ?_ GE512.out | refine below_set ?_ GE517.out) | exact HB.out)⟩
    ·replace c12 := Bool.eq_false_iff.mpr c12
     subst c12
     have H1 : (some false) = some r := by rw [if_neg (show ¬ (false = true) by decide)] at H; exact H
     clear H
     have H := H1
     clear H1
     obtain rfl := Option.some.inj H
     go_enter Tryd.func8, Tryd.ntmps8
     go_wp2_with (first | ((with_reducible refine gate_callee (f := 23) rfl ?_); refine goesL_ (some 9) rfl rfl Tryd.func23 (by kernel_rfl) rfl #[] rfl am ?_; (with_reducible refine (bulletinlaw13_works.calls k  true _ A2.out).mono ?_); rintro e w91 ⟨rfl, hb⟩; refine ⟨_, rfl, ?_⟩; have n0_ := Aside0.mk (below_step bw hb); clear HB; have HB := n0_; clear n0_; (try clear hb); (try clear hb2); (try clear hk); (try clear hi)) | ((with_reducible refine gate_callee (f := 35) rfl ?_); refine goesL_ (some 16) rfl rfl Tryd.func35 (by kernel_rfl) rfl #[.string a0] rfl am ?_; (with_reducible refine (addr_Parse.calls k a0 t505 t506 t507 _ A6.out).mono ?_); rintro e w92 ⟨rfl, hb⟩; refine ⟨_, rfl, ?_⟩; have n0_ := Aside0.mk (below_step bw hb); clear HB; have HB := n0_; clear n0_; (try clear hb); (try clear hb2); (try clear hk); (try clear hi)) | ((with_reducible refine gate_dst (N := 3) rfl ?_); refine box_event ?hg (N := 3) ?hd (cs := #[.string (⟨#[]⟩ : ByteArray), .string (⟨#[]⟩ : ByteArray)]) (t := 32) ?hr ?_; (case hd => rfl); (case hg => rfl); (case hr => first | (go_simp; done) | (go_simp; rfl)); intro gb508 hg w93 hbox hb; have n0_ := Aside0.mk (below_step bw hb); have n1_ := Aside0.mk (hbox); have n2_ := Aside0.mk ((by rw [hg]; exact (below_size bw) : w.heap.size ≤ gb508)); have n3_ := Aside0.mk ((by rw [hg]; exact (below_size bw) : w.heap.size ≤ gb508)); clear HB; have HB := n0_; have BK508 := n1_; have GW508 := n2_; have GE508 := n3_; clear n0_ n1_ n2_ n3_; clear hb hbox hg; have hcz94_0 : w93.cell? ⟨gb508, 0, none⟩ = some (.string (⟨#[]⟩ : ByteArray)) := (blk_cell BK508.out 0).trans rfl; have hcz94_1 : w93.cell? ⟨gb508, 1, none⟩ = some (.string (⟨#[]⟩ : ByteArray)) := (blk_cell BK508.out 1).trans rfl; have hfz94_0 := blk_frozen BK508.out 0; have hfz94_1 := blk_frozen BK508.out 1) | ((with_reducible refine gate_callee (f := 36) rfl ?_); refine goesL_ (some 21) rfl rfl Tryd.func36 (by kernel_rfl) rfl #[.string a0] rfl am ?_; (with_reducible refine (addr_Strict.calls k a0 t509 t510 t511 _ A7.out).mono ?_); rintro e w95 ⟨rfl, hb⟩; refine ⟨_, rfl, ?_⟩; have n0_ := Aside0.mk (blk_below (g := gb508) (o := .cells #[.string t505, .string t506] 32 (0, 0)) (by (with_reducible repeat (first | refine blk_drewN ?_ _ | refine blk_drew ?_ | refine blk_alloc ?_ _)); refine blk_put (cs := #[.string t505, .string (⟨#[]⟩ : ByteArray)]) ?_ 1 _ rfl; (with_reducible repeat (first | refine blk_drewN ?_ _ | refine blk_drew ?_ | refine blk_alloc ?_ _)); refine blk_put (cs := #[.string (⟨#[]⟩ : ByteArray), .string (⟨#[]⟩ : ByteArray)]) ?_ 0 _ rfl; (with_reducible repeat (first | refine blk_drewN ?_ _ | refine blk_drew ?_ | refine blk_alloc ?_ _)); exact BK508.out) hb); have n1_ := Aside0.mk (below_step bwS hb); clear BK508; clear HB; have BK508 := n0_; have HB := n1_; clear n0_ n1_; (try clear hb); (try clear hb2); (try clear hk); (try clear hi)) | ((with_reducible refine gate_dst (N := 5) rfl ?_); refine box_event ?hg (N := 5) ?hd (cs := #[.string (⟨#[]⟩ : ByteArray), .string (⟨#[]⟩ : ByteArray)]) (t := 32) ?hr ?_; (case hd => rfl); (case hg => rfl); (case hr => first | (go_simp; done) | (go_simp; rfl)); intro gb512 hg w96 hbox hb; have n0_ := Aside0.mk (blk_below (g := gb508) (o := .cells #[.string t505, .string t506] 32 (0, 0)) bk hb); have n1_ := Aside0.mk (below_step bwS hb); have n2_ := Aside0.mk (hbox); have n3_ := Aside0.mk ((by rw [hg]; exact (below_size bwS) : w.heap.size ≤ gb512)); have n4_ := Aside0.mk ((by rw [hg]; exact (below_size bwS) : w.heap.size ≤ gb512)); have n5_ := Aside0.mk ((by rw [hg]; exact Nat.ne_of_lt (blk_lt (g := gb508) (o := .cells #[.string t505, .string t506] 32 (0, 0)) bk) : gb508 ≠ gb512)); have n6_ := Aside0.mk ((by rw [hg]; exact Nat.ne_of_gt (blk_lt (g := gb508) (o := .cells #[.string t505, .string t506] 32 (0, 0)) bk) : gb512 ≠ gb508)); clear BK508; clear HB; have BK508 := n0_; have HB := n1_; have BK512 := n2_; have GW512 := n3_; have GE512 := n4_; have NB508_512 := n5_; have NB512_508 := n6_; clear n0_ n1_ n2_ n3_ n4_ n5_ n6_; clear hb hbox hg; have hnb97 := NB512_508.out; have hnc97 := NB508_512.out; have hcz98_0 : w96.cell? ⟨gb512, 0, none⟩ = some (.string (⟨#[]⟩ : ByteArray)) := (blk_cell BK512.out 0).trans rfl; have hcz98_1 : w96.cell? ⟨gb512, 1, none⟩ = some (.string (⟨#[]⟩ : ByteArray)) := (blk_cell BK512.out 1).trans rfl; have hfz98_0 := blk_frozen BK512.out 0; have hfz98_1 := blk_frozen BK512.out 1; have hcz99_0 : w96.cell? ⟨gb508, 0, none⟩ = some (.string t505) := (blk_cell BK508.out 0).trans rfl; have hcz99_1 : w96.cell? ⟨gb508, 1, none⟩ = some (.string t506) := (blk_cell BK508.out 1).trans rfl; have hfz99_0 := blk_frozen BK508.out 0; have hfz99_1 := blk_frozen BK508.out 1) | ((with_reducible refine gate_callee (f := 29) rfl ?_); refine goesL_ (some 41) rfl rfl Tryd.func29 (by kernel_rfl) rfl #[.agg #[.string t505, .string t506]] rfl am ?_; (with_reducible refine (addr_Addr_Text.calls k t505 t506 t513 _ A9.out).mono ?_); rintro e w100 ⟨rfl, hb⟩; refine ⟨_, rfl, ?_⟩; have n0_ := Aside0.mk (blk_below (g := gb508) (o := .cells #[.string t505, .string t506] 32 (0, 0)) (by (with_reducible repeat (first | refine blk_drewN ?_ _ | refine blk_drew ?_ | refine blk_alloc ?_ _)); refine blk_far ?_ NB508_512.out _; (with_reducible repeat (first | refine blk_drewN ?_ _ | refine blk_drew ?_ | refine blk_alloc ?_ _)); refine blk_far ?_ NB508_512.out _; (with_reducible repeat (first | refine blk_drewN ?_ _ | refine blk_drew ?_ | refine blk_alloc ?_ _)); exact BK508.out) hb); have n1_ := Aside0.mk (blk_below (g := gb512) (o := .cells #[.string t509, .string t510] 32 (0, 0)) (by (with_reducible repeat (first | refine blk_drewN ?_ _ | refine blk_drew ?_ | refine blk_alloc ?_ _)); refine blk_put (cs := #[.string t509, .string (⟨#[]⟩ : ByteArray)]) ?_ 1 _ rfl; (with_reducible repeat (first | refine blk_drewN ?_ _ | refine blk_drew ?_ | refine blk_alloc ?_ _)); refine blk_put (cs := #[.string (⟨#[]⟩ : ByteArray), .string (⟨#[]⟩ : ByteArray)]) ?_ 0 _ rfl; (with_reducible repeat (first | refine blk_drewN ?_ _ | refine blk_drew ?_ | refine blk_alloc ?_ _)); exact BK512.out) hb); have n2_ := Aside0.mk (below_step (by repeat (first | (with_reducible first | exact HB.out | apply below_alloc | apply pw_below_drewN | apply below_drew1 | refine below_set ?_ GE508.out | refine below_set ?_ GE512.out) | exact HB.out)) hb); clear BK508; clear BK512; clear HB; have BK508 := n0_; have BK512 := n1_; have HB := n2_; clear n0_ n1_ n2_; (try clear hb); (try clear hb2); (try clear hk); (try clear hi)) | ((with_reducible refine gate_callee (f := 35) rfl ?_); refine goesL_ (some 42) rfl rfl Tryd.func35 (by kernel_rfl) rfl #[.string t513] rfl am ?_; (with_reducible refine (addr_Parse.calls k t513 t514 t515 t516 _ A10.out).mono ?_); rintro e w101 ⟨rfl, hb⟩; refine ⟨_, rfl, ?_⟩; have n0_ := Aside0.mk (blk_below (g := gb508) (o := .cells #[.string t505, .string t506] 32 (0, 0)) bk hb); have n1_ := Aside0.mk (blk_below (g := gb512) (o := .cells #[.string t509, .string t510] 32 (0, 0)) bk hb); have n2_ := Aside0.mk (below_step (by repeat (first | (with_reducible first | exact HB.out | apply below_alloc | apply pw_below_drewN | apply below_drew1 | refine below_set ?_ GE508.out | refine below_set ?_ GE512.out) | exact HB.out)) hb); clear BK508; clear BK512; clear HB; have BK508 := n0_; have BK512 := n1_; have HB := n2_; clear n0_ n1_ n2_; (try clear hb); (try clear hb2); (try clear hk); (try clear hi)) | ((with_reducible refine gate_dst (N := 7) rfl ?_); refine box_event ?hg (N := 7) ?hd (cs := #[.string (⟨#[]⟩ : ByteArray), .string (⟨#[]⟩ : ByteArray)]) (t := 32) ?hr ?_; (case hd => rfl); (case hg => rfl); (case hr => first | (go_simp; done) | (go_simp; rfl)); intro gb517 hg w102 hbox hb; have n0_ := Aside0.mk (blk_below (g := gb508) (o := .cells #[.string t505, .string t506] 32 (0, 0)) bk hb); have n1_ := Aside0.mk (blk_below (g := gb512) (o := .cells #[.string t509, .string t510] 32 (0, 0)) bk hb); have n2_ := Aside0.mk (below_step (by repeat (first | (with_reducible first | exact HB.out | apply below_alloc | apply pw_below_drewN | apply below_drew1 | refine below_set ?_ GE508.out | refine below_set ?_ GE512.out) | exact HB.out)) hb); have n3_ := Aside0.mk (hbox); have n4_ := Aside0.mk ((by rw [hg]; exact (below_size (by repeat (first | (with_reducible first | exact HB.out | apply below_alloc | apply pw_below_drewN | apply below_drew1 | refine below_set ?_ GE508.out | refine below_set ?_ GE512.out) | exact HB.out))) : w.heap.size ≤ gb517)); have n5_ := Aside0.mk ((by rw [hg]; exact (below_size (by repeat (first | (with_reducible first | exact HB.out | apply below_alloc | apply pw_below_drewN | apply below_drew1 | refine below_set ?_ GE508.out | refine below_set ?_ GE512.out) | exact HB.out))) : w.heap.size ≤ gb517)); have n6_ := Aside0.mk ((by rw [hg]; exact Nat.ne_of_lt (blk_lt (g := gb508) (o := .cells #[.string t505, .string t506] 32 (0, 0)) bk) : gb508 ≠ gb517)); have n7_ := Aside0.mk ((by rw [hg]; exact Nat.ne_of_gt (blk_lt (g := gb508) (o := .cells #[.string t505, .string t506] 32 (0, 0)) bk) : gb517 ≠ gb508)); have n8_ := Aside0.mk ((by rw [hg]; exact Nat.ne_of_lt (blk_lt (g := gb512) (o := .cells #[.string t509, .string t510] 32 (0, 0)) bk) : gb512 ≠ gb517)); have n9_ := Aside0.mk ((by rw [hg]; exact Nat.ne_of_gt (blk_lt (g := gb512) (o := .cells #[.string t509, .string t510] 32 (0, 0)) bk) : gb517 ≠ gb512)); clear BK508; clear BK512; clear HB; have BK508 := n0_; have BK512 := n1_; have HB := n2_; have BK517 := n3_; have GW517 := n4_; have GE517 := n5_; have NB508_517 := n6_; have NB517_508 := n7_; have NB512_517 := n8_; have NB517_512 := n9_; clear n0_ n1_ n2_ n3_ n4_ n5_ n6_ n7_ n8_ n9_; clear hb hbox hg; have hnb103 := NB517_508.out; have hnc103 := NB508_517.out; have hnb104 := NB517_512.out; have hnc104 := NB512_517.out; have hcz105_0 : w102.cell? ⟨gb517, 0, none⟩ = some (.string (⟨#[]⟩ : ByteArray)) := (blk_cell BK517.out 0).trans rfl; have hcz105_1 : w102.cell? ⟨gb517, 1, none⟩ = some (.string (⟨#[]⟩ : ByteArray)) := (blk_cell BK517.out 1).trans rfl; have hfz105_0 := blk_frozen BK517.out 0; have hfz105_1 := blk_frozen BK517.out 1; have hcz106_0 : w102.cell? ⟨gb508, 0, none⟩ = some (.string t505) := (blk_cell BK508.out 0).trans rfl; have hcz106_1 : w102.cell? ⟨gb508, 1, none⟩ = some (.string t506) := (blk_cell BK508.out 1).trans rfl; have hfz106_0 := blk_frozen BK508.out 0; have hfz106_1 := blk_frozen BK508.out 1) | ((with_reducible refine gate_callee (f := 25) rfl ?_); refine goesL_ (some 46) rfl rfl Tryd.func25 (by kernel_rfl) rfl #[.agg #[.string t505, .string t506]] rfl am ?_; (with_reducible refine (addr_Addr_Right.calls k t505 t506 false _ A11.out).mono ?_); rintro e w107 ⟨rfl, hb⟩; refine ⟨_, rfl, ?_⟩; have n0_ := Aside0.mk (blk_below (g := gb508) (o := .cells #[.string t505, .string t506] 32 (0, 0)) (by (with_reducible repeat (first | refine blk_drewN ?_ _ | refine blk_drew ?_ | refine blk_alloc ?_ _)); refine blk_far ?_ NB508_517.out _; (with_reducible repeat (first | refine blk_drewN ?_ _ | refine blk_drew ?_ | refine blk_alloc ?_ _)); refine blk_far ?_ NB508_517.out _; (with_reducible repeat (first | refine blk_drewN ?_ _ | refine blk_drew ?_ | refine blk_alloc ?_ _)); exact BK508.out) hb); have n1_ := Aside0.mk (blk_below (g := gb512) (o := .cells #[.string t509, .string t510] 32 (0, 0)) (by (with_reducible repeat (first | refine blk_drewN ?_ _ | refine blk_drew ?_ | refine blk_alloc ?_ _)); refine blk_far ?_ NB512_517.out _; (with_reducible repeat (first | refine blk_drewN ?_ _ | refine blk_drew ?_ | refine blk_alloc ?_ _)); refine blk_far ?_ NB512_517.out _; (with_reducible repeat (first | refine blk_drewN ?_ _ | refine blk_drew ?_ | refine blk_alloc ?_ _)); exact BK512.out) hb); have n2_ := Aside0.mk (blk_below (g := gb517) (o := .cells #[.string t514, .string t515] 32 (0, 0)) (by (with_reducible repeat (first | refine blk_drewN ?_ _ | refine blk_drew ?_ | refine blk_alloc ?_ _)); refine blk_put (cs := #[.string t514, .string (⟨#[]⟩ : ByteArray)]) ?_ 1 _ rfl; (with_reducible repeat (first | refine blk_drewN ?_ _ | refine blk_drew ?_ | refine blk_alloc ?_ _)); refine blk_put (cs := #[.string (⟨#[]⟩ : ByteArray), .string (⟨#[]⟩ : ByteArray)]) ?_ 0 _ rfl; (with_reducible repeat (first | refine blk_drewN ?_ _ | refine blk_drew ?_ | refine blk_alloc ?_ _)); exact BK517.out) hb); have n3_ := Aside0.mk (below_step (by repeat (first | (with_reducible first | exact HB.out | apply below_alloc | apply pw_below_drewN | apply below_drew1 | refine below_set ?_ GE508.out | refine below_set ?_ GE512.out | refine below_set ?_ GE517.out) | exact HB.out)) hb); clear BK508; clear BK512; clear BK517; clear HB; have BK508 := n0_; have BK512 := n1_; have BK517 := n2_; have HB := n3_; clear n0_ n1_ n2_ n3_; (try clear hb); (try clear hb2); (try clear hk); (try clear hi)))
     go_ret
     exact ⟨by first | rfl | (simp [errW_none, errW_some] <;> rfl) | (simp [*, errW_none, errW_some] <;> rfl), by repeat (first | (with_reducible first | exact HB.out | apply below_alloc | apply pw_below_drewN | apply below_drew1 | refine below_set ?_ GE508.out | refine below_set ?_ GE512.out | refine below_set ?_ GE517.out) | exact HB.out)⟩
   ·rw [if_neg c8] at H
    have c8b0 : (t507 == 0) = false := beq_eq_false_iff_ne.mpr c8
    have c8b1 : (t507 != 0) = true := bne_iff_ne.mpr c8
    by_cases c108 : t511 = t507
    ·rw [if_pos c108] at H
     have c108b0 : (t511 == t507) = true := beq_iff_eq.mpr c108
     have c108b1 : (t511 != t507) = false := bne_eq_false_iff_eq.mpr c108
     clear c108
     by_cases c109 : (t505.toList == ([] : List UInt8) && (t506.toList == ([] : List UInt8))) = true
     ·rw [if_pos c109] at H
      have c109b0 : (t505.toList == ([] : List UInt8) && (t506.toList == ([] : List UInt8))) = true := c109
      (try (have c109b1 : decide (t505.toList = ([] : List UInt8) && (t506.toList == ([] : List UInt8))) = true := by simpa using c109))
      (try (have c109E := eq_true (show t505.toList = ([] : List UInt8) ∧ t506.toList = ([] : List UInt8) by simpa using c109)))
      (try (have c109b2 : (t505.toList == ([] : List UInt8) && (t506.toList == ([] : List UInt8))) = true := by simpa using c109))
      clear c109
      obtain rfl := Option.some.inj H
      go_enter Tryd.func8, Tryd.ntmps8
      go_wp2_with (first | ((with_reducible refine gate_callee (f := 23) rfl ?_); refine goesL_ (some 9) rfl rfl Tryd.func23 (by kernel_rfl) rfl #[] rfl am ?_; (with_reducible refine (bulletinlaw13_works.calls k  true _ A2.out).mono ?_); rintro e w110 ⟨rfl, hb⟩; refine ⟨_, rfl, ?_⟩; have n0_ := Aside0.mk (below_step bw hb); clear HB; have HB := n0_; clear n0_; (try clear hb); (try clear hb2); (try clear hk); (try clear hi)) | ((with_reducible refine gate_callee (f := 35) rfl ?_); refine goesL_ (some 16) rfl rfl Tryd.func35 (by kernel_rfl) rfl #[.string a0] rfl am ?_; (with_reducible refine (addr_Parse.calls k a0 t505 t506 t507 _ A6.out).mono ?_); rintro e w111 ⟨rfl, hb⟩; refine ⟨_, rfl, ?_⟩; have n0_ := Aside0.mk (below_step bw hb); clear HB; have HB := n0_; clear n0_; (try clear hb); (try clear hb2); (try clear hk); (try clear hi)) | ((with_reducible refine gate_dst (N := 3) rfl ?_); refine box_event ?hg (N := 3) ?hd (cs := #[.string (⟨#[]⟩ : ByteArray), .string (⟨#[]⟩ : ByteArray)]) (t := 32) ?hr ?_; (case hd => rfl); (case hg => rfl); (case hr => first | (go_simp; done) | (go_simp; rfl)); intro gb508 hg w112 hbox hb; have n0_ := Aside0.mk (below_step bw hb); have n1_ := Aside0.mk (hbox); have n2_ := Aside0.mk ((by rw [hg]; exact (below_size bw) : w.heap.size ≤ gb508)); have n3_ := Aside0.mk ((by rw [hg]; exact (below_size bw) : w.heap.size ≤ gb508)); clear HB; have HB := n0_; have BK508 := n1_; have GW508 := n2_; have GE508 := n3_; clear n0_ n1_ n2_ n3_; clear hb hbox hg; have hcz113_0 : w112.cell? ⟨gb508, 0, none⟩ = some (.string (⟨#[]⟩ : ByteArray)) := (blk_cell BK508.out 0).trans rfl; have hcz113_1 : w112.cell? ⟨gb508, 1, none⟩ = some (.string (⟨#[]⟩ : ByteArray)) := (blk_cell BK508.out 1).trans rfl; have hfz113_0 := blk_frozen BK508.out 0; have hfz113_1 := blk_frozen BK508.out 1) | ((with_reducible refine gate_callee (f := 36) rfl ?_); refine goesL_ (some 21) rfl rfl Tryd.func36 (by kernel_rfl) rfl #[.string a0] rfl am ?_; (with_reducible refine (addr_Strict.calls k a0 t509 t510 t511 _ A7.out).mono ?_); rintro e w114 ⟨rfl, hb⟩; refine ⟨_, rfl, ?_⟩; have n0_ := Aside0.mk (blk_below (g := gb508) (o := .cells #[.string t505, .string t506] 32 (0, 0)) (by (with_reducible repeat (first | refine blk_drewN ?_ _ | refine blk_drew ?_ | refine blk_alloc ?_ _)); refine blk_put (cs := #[.string t505, .string (⟨#[]⟩ : ByteArray)]) ?_ 1 _ rfl; (with_reducible repeat (first | refine blk_drewN ?_ _ | refine blk_drew ?_ | refine blk_alloc ?_ _)); refine blk_put (cs := #[.string (⟨#[]⟩ : ByteArray), .string (⟨#[]⟩ : ByteArray)]) ?_ 0 _ rfl; (with_reducible repeat (first | refine blk_drewN ?_ _ | refine blk_drew ?_ | refine blk_alloc ?_ _)); exact BK508.out) hb); have n1_ := Aside0.mk (below_step bwS hb); clear BK508; clear HB; have BK508 := n0_; have HB := n1_; clear n0_ n1_; (try clear hb); (try clear hb2); (try clear hk); (try clear hi)) | ((with_reducible refine gate_dst (N := 5) rfl ?_); refine box_event ?hg (N := 5) ?hd (cs := #[.string (⟨#[]⟩ : ByteArray), .string (⟨#[]⟩ : ByteArray)]) (t := 32) ?hr ?_; (case hd => rfl); (case hg => rfl); (case hr => first | (go_simp; done) | (go_simp; rfl)); intro gb512 hg w115 hbox hb; have n0_ := Aside0.mk (blk_below (g := gb508) (o := .cells #[.string t505, .string t506] 32 (0, 0)) bk hb); have n1_ := Aside0.mk (below_step bwS hb); have n2_ := Aside0.mk (hbox); have n3_ := Aside0.mk ((by rw [hg]; exact (below_size bwS) : w.heap.size ≤ gb512)); have n4_ := Aside0.mk ((by rw [hg]; exact (below_size bwS) : w.heap.size ≤ gb512)); have n5_ := Aside0.mk ((by rw [hg]; exact Nat.ne_of_lt (blk_lt (g := gb508) (o := .cells #[.string t505, .string t506] 32 (0, 0)) bk) : gb508 ≠ gb512)); have n6_ := Aside0.mk ((by rw [hg]; exact Nat.ne_of_gt (blk_lt (g := gb508) (o := .cells #[.string t505, .string t506] 32 (0, 0)) bk) : gb512 ≠ gb508)); clear BK508; clear HB; have BK508 := n0_; have HB := n1_; have BK512 := n2_; have GW512 := n3_; have GE512 := n4_; have NB508_512 := n5_; have NB512_508 := n6_; clear n0_ n1_ n2_ n3_ n4_ n5_ n6_; clear hb hbox hg; have hnb116 := NB512_508.out; have hnc116 := NB508_512.out; have hcz117_0 : w115.cell? ⟨gb512, 0, none⟩ = some (.string (⟨#[]⟩ : ByteArray)) := (blk_cell BK512.out 0).trans rfl; have hcz117_1 : w115.cell? ⟨gb512, 1, none⟩ = some (.string (⟨#[]⟩ : ByteArray)) := (blk_cell BK512.out 1).trans rfl; have hfz117_0 := blk_frozen BK512.out 0; have hfz117_1 := blk_frozen BK512.out 1; have hcz118_0 : w115.cell? ⟨gb508, 0, none⟩ = some (.string t505) := (blk_cell BK508.out 0).trans rfl; have hcz118_1 : w115.cell? ⟨gb508, 1, none⟩ = some (.string t506) := (blk_cell BK508.out 1).trans rfl; have hfz118_0 := blk_frozen BK508.out 0; have hfz118_1 := blk_frozen BK508.out 1))
      go_ret
      exact ⟨by first | rfl | (simp [errW_none, errW_some] <;> rfl) | (simp [*, errW_none, errW_some] <;> rfl), by repeat (first | (with_reducible first | exact HB.out | apply below_alloc | apply pw_below_drewN | apply below_drew1 | refine below_set ?_ GE508.out | refine below_set ?_ GE512.out) | exact HB.out)⟩
     ·rw [if_neg c109] at H
      have c109b0 : (t505.toList == ([] : List UInt8) && (t506.toList == ([] : List UInt8))) = false := by simpa using c109
      (try (have c109b1 : decide (t505.toList = ([] : List UInt8) && (t506.toList == ([] : List UInt8))) = false := by simpa using c109))
      (try (have c109E := eq_false (show ¬ (t505.toList = ([] : List UInt8) ∧ t506.toList = ([] : List UInt8)) by simpa using c109)))
      (try (have c109b2 : (t505.toList == ([] : List UInt8) && (t506.toList == ([] : List UInt8))) = false := by simpa using c109))
      (try (have c109b3 : ¬ (t505.toList = ([] : List UInt8) && (t506.toList == ([] : List UInt8))) := by simpa using c109))
      clear c109
      obtain rfl := Option.some.inj H
      go_enter Tryd.func8, Tryd.ntmps8
      go_wp2_with (first | ((with_reducible refine gate_callee (f := 23) rfl ?_); refine goesL_ (some 9) rfl rfl Tryd.func23 (by kernel_rfl) rfl #[] rfl am ?_; (with_reducible refine (bulletinlaw13_works.calls k  true _ A2.out).mono ?_); rintro e w119 ⟨rfl, hb⟩; refine ⟨_, rfl, ?_⟩; have n0_ := Aside0.mk (below_step bw hb); clear HB; have HB := n0_; clear n0_; (try clear hb); (try clear hb2); (try clear hk); (try clear hi)) | ((with_reducible refine gate_callee (f := 35) rfl ?_); refine goesL_ (some 16) rfl rfl Tryd.func35 (by kernel_rfl) rfl #[.string a0] rfl am ?_; (with_reducible refine (addr_Parse.calls k a0 t505 t506 t507 _ A6.out).mono ?_); rintro e w120 ⟨rfl, hb⟩; refine ⟨_, rfl, ?_⟩; have n0_ := Aside0.mk (below_step bw hb); clear HB; have HB := n0_; clear n0_; (try clear hb); (try clear hb2); (try clear hk); (try clear hi)) | ((with_reducible refine gate_dst (N := 3) rfl ?_); refine box_event ?hg (N := 3) ?hd (cs := #[.string (⟨#[]⟩ : ByteArray), .string (⟨#[]⟩ : ByteArray)]) (t := 32) ?hr ?_; (case hd => rfl); (case hg => rfl); (case hr => first | (go_simp; done) | (go_simp; rfl)); intro gb508 hg w121 hbox hb; have n0_ := Aside0.mk (below_step bw hb); have n1_ := Aside0.mk (hbox); have n2_ := Aside0.mk ((by rw [hg]; exact (below_size bw) : w.heap.size ≤ gb508)); have n3_ := Aside0.mk ((by rw [hg]; exact (below_size bw) : w.heap.size ≤ gb508)); clear HB; have HB := n0_; have BK508 := n1_; have GW508 := n2_; have GE508 := n3_; clear n0_ n1_ n2_ n3_; clear hb hbox hg; have hcz122_0 : w121.cell? ⟨gb508, 0, none⟩ = some (.string (⟨#[]⟩ : ByteArray)) := (blk_cell BK508.out 0).trans rfl; have hcz122_1 : w121.cell? ⟨gb508, 1, none⟩ = some (.string (⟨#[]⟩ : ByteArray)) := (blk_cell BK508.out 1).trans rfl; have hfz122_0 := blk_frozen BK508.out 0; have hfz122_1 := blk_frozen BK508.out 1) | ((with_reducible refine gate_callee (f := 36) rfl ?_); refine goesL_ (some 21) rfl rfl Tryd.func36 (by kernel_rfl) rfl #[.string a0] rfl am ?_; (with_reducible refine (addr_Strict.calls k a0 t509 t510 t511 _ A7.out).mono ?_); rintro e w123 ⟨rfl, hb⟩; refine ⟨_, rfl, ?_⟩; have n0_ := Aside0.mk (blk_below (g := gb508) (o := .cells #[.string t505, .string t506] 32 (0, 0)) (by (with_reducible repeat (first | refine blk_drewN ?_ _ | refine blk_drew ?_ | refine blk_alloc ?_ _)); refine blk_put (cs := #[.string t505, .string (⟨#[]⟩ : ByteArray)]) ?_ 1 _ rfl; (with_reducible repeat (first | refine blk_drewN ?_ _ | refine blk_drew ?_ | refine blk_alloc ?_ _)); refine blk_put (cs := #[.string (⟨#[]⟩ : ByteArray), .string (⟨#[]⟩ : ByteArray)]) ?_ 0 _ rfl; (with_reducible repeat (first | refine blk_drewN ?_ _ | refine blk_drew ?_ | refine blk_alloc ?_ _)); exact BK508.out) hb); have n1_ := Aside0.mk (below_step bwS hb); clear BK508; clear HB; have BK508 := n0_; have HB := n1_; clear n0_ n1_; (try clear hb); (try clear hb2); (try clear hk); (try clear hi)) | ((with_reducible refine gate_dst (N := 5) rfl ?_); refine box_event ?hg (N := 5) ?hd (cs := #[.string (⟨#[]⟩ : ByteArray), .string (⟨#[]⟩ : ByteArray)]) (t := 32) ?hr ?_; (case hd => rfl); (case hg => rfl); (case hr => first | (go_simp; done) | (go_simp; rfl)); intro gb512 hg w124 hbox hb; have n0_ := Aside0.mk (blk_below (g := gb508) (o := .cells #[.string t505, .string t506] 32 (0, 0)) bk hb); have n1_ := Aside0.mk (below_step bwS hb); have n2_ := Aside0.mk (hbox); have n3_ := Aside0.mk ((by rw [hg]; exact (below_size bwS) : w.heap.size ≤ gb512)); have n4_ := Aside0.mk ((by rw [hg]; exact (below_size bwS) : w.heap.size ≤ gb512)); have n5_ := Aside0.mk ((by rw [hg]; exact Nat.ne_of_lt (blk_lt (g := gb508) (o := .cells #[.string t505, .string t506] 32 (0, 0)) bk) : gb508 ≠ gb512)); have n6_ := Aside0.mk ((by rw [hg]; exact Nat.ne_of_gt (blk_lt (g := gb508) (o := .cells #[.string t505, .string t506] 32 (0, 0)) bk) : gb512 ≠ gb508)); clear BK508; clear HB; have BK508 := n0_; have HB := n1_; have BK512 := n2_; have GW512 := n3_; have GE512 := n4_; have NB508_512 := n5_; have NB512_508 := n6_; clear n0_ n1_ n2_ n3_ n4_ n5_ n6_; clear hb hbox hg; have hnb125 := NB512_508.out; have hnc125 := NB508_512.out; have hcz126_0 : w124.cell? ⟨gb512, 0, none⟩ = some (.string (⟨#[]⟩ : ByteArray)) := (blk_cell BK512.out 0).trans rfl; have hcz126_1 : w124.cell? ⟨gb512, 1, none⟩ = some (.string (⟨#[]⟩ : ByteArray)) := (blk_cell BK512.out 1).trans rfl; have hfz126_0 := blk_frozen BK512.out 0; have hfz126_1 := blk_frozen BK512.out 1; have hcz127_0 : w124.cell? ⟨gb508, 0, none⟩ = some (.string t505) := (blk_cell BK508.out 0).trans rfl; have hcz127_1 : w124.cell? ⟨gb508, 1, none⟩ = some (.string t506) := (blk_cell BK508.out 1).trans rfl; have hfz127_0 := blk_frozen BK508.out 0; have hfz127_1 := blk_frozen BK508.out 1))
      go_ret
      exact ⟨by first | rfl | (simp [errW_none, errW_some] <;> rfl) | (simp [*, errW_none, errW_some] <;> rfl), by repeat (first | (with_reducible first | exact HB.out | apply below_alloc | apply pw_below_drewN | apply below_drew1 | refine below_set ?_ GE508.out | refine below_set ?_ GE512.out) | exact HB.out)⟩
    ·rw [if_neg c108] at H
     have c108b0 : (t511 == t507) = false := beq_eq_false_iff_ne.mpr c108
     have c108b1 : (t511 != t507) = true := bne_iff_ne.mpr c108
     obtain rfl := Option.some.inj H
     go_enter Tryd.func8, Tryd.ntmps8
     go_wp2_with (first | ((with_reducible refine gate_callee (f := 23) rfl ?_); refine goesL_ (some 9) rfl rfl Tryd.func23 (by kernel_rfl) rfl #[] rfl am ?_; (with_reducible refine (bulletinlaw13_works.calls k  true _ A2.out).mono ?_); rintro e w128 ⟨rfl, hb⟩; refine ⟨_, rfl, ?_⟩; have n0_ := Aside0.mk (below_step bw hb); clear HB; have HB := n0_; clear n0_; (try clear hb); (try clear hb2); (try clear hk); (try clear hi)) | ((with_reducible refine gate_callee (f := 35) rfl ?_); refine goesL_ (some 16) rfl rfl Tryd.func35 (by kernel_rfl) rfl #[.string a0] rfl am ?_; (with_reducible refine (addr_Parse.calls k a0 t505 t506 t507 _ A6.out).mono ?_); rintro e w129 ⟨rfl, hb⟩; refine ⟨_, rfl, ?_⟩; have n0_ := Aside0.mk (below_step bw hb); clear HB; have HB := n0_; clear n0_; (try clear hb); (try clear hb2); (try clear hk); (try clear hi)) | ((with_reducible refine gate_dst (N := 3) rfl ?_); refine box_event ?hg (N := 3) ?hd (cs := #[.string (⟨#[]⟩ : ByteArray), .string (⟨#[]⟩ : ByteArray)]) (t := 32) ?hr ?_; (case hd => rfl); (case hg => rfl); (case hr => first | (go_simp; done) | (go_simp; rfl)); intro gb508 hg w130 hbox hb; have n0_ := Aside0.mk (below_step bw hb); have n1_ := Aside0.mk (hbox); have n2_ := Aside0.mk ((by rw [hg]; exact (below_size bw) : w.heap.size ≤ gb508)); have n3_ := Aside0.mk ((by rw [hg]; exact (below_size bw) : w.heap.size ≤ gb508)); clear HB; have HB := n0_; have BK508 := n1_; have GW508 := n2_; have GE508 := n3_; clear n0_ n1_ n2_ n3_; clear hb hbox hg; have hcz131_0 : w130.cell? ⟨gb508, 0, none⟩ = some (.string (⟨#[]⟩ : ByteArray)) := (blk_cell BK508.out 0).trans rfl; have hcz131_1 : w130.cell? ⟨gb508, 1, none⟩ = some (.string (⟨#[]⟩ : ByteArray)) := (blk_cell BK508.out 1).trans rfl; have hfz131_0 := blk_frozen BK508.out 0; have hfz131_1 := blk_frozen BK508.out 1) | ((with_reducible refine gate_callee (f := 36) rfl ?_); refine goesL_ (some 21) rfl rfl Tryd.func36 (by kernel_rfl) rfl #[.string a0] rfl am ?_; (with_reducible refine (addr_Strict.calls k a0 t509 t510 t511 _ A7.out).mono ?_); rintro e w132 ⟨rfl, hb⟩; refine ⟨_, rfl, ?_⟩; have n0_ := Aside0.mk (blk_below (g := gb508) (o := .cells #[.string t505, .string t506] 32 (0, 0)) (by (with_reducible repeat (first | refine blk_drewN ?_ _ | refine blk_drew ?_ | refine blk_alloc ?_ _)); refine blk_put (cs := #[.string t505, .string (⟨#[]⟩ : ByteArray)]) ?_ 1 _ rfl; (with_reducible repeat (first | refine blk_drewN ?_ _ | refine blk_drew ?_ | refine blk_alloc ?_ _)); refine blk_put (cs := #[.string (⟨#[]⟩ : ByteArray), .string (⟨#[]⟩ : ByteArray)]) ?_ 0 _ rfl; (with_reducible repeat (first | refine blk_drewN ?_ _ | refine blk_drew ?_ | refine blk_alloc ?_ _)); exact BK508.out) hb); have n1_ := Aside0.mk (below_step bwS hb); clear BK508; clear HB; have BK508 := n0_; have HB := n1_; clear n0_ n1_; (try clear hb); (try clear hb2); (try clear hk); (try clear hi)) | ((with_reducible refine gate_dst (N := 5) rfl ?_); refine box_event ?hg (N := 5) ?hd (cs := #[.string (⟨#[]⟩ : ByteArray), .string (⟨#[]⟩ : ByteArray)]) (t := 32) ?hr ?_; (case hd => rfl); (case hg => rfl); (case hr => first | (go_simp; done) | (go_simp; rfl)); intro gb512 hg w133 hbox hb; have n0_ := Aside0.mk (blk_below (g := gb508) (o := .cells #[.string t505, .string t506] 32 (0, 0)) bk hb); have n1_ := Aside0.mk (below_step bwS hb); have n2_ := Aside0.mk (hbox); have n3_ := Aside0.mk ((by rw [hg]; exact (below_size bwS) : w.heap.size ≤ gb512)); have n4_ := Aside0.mk ((by rw [hg]; exact (below_size bwS) : w.heap.size ≤ gb512)); have n5_ := Aside0.mk ((by rw [hg]; exact Nat.ne_of_lt (blk_lt (g := gb508) (o := .cells #[.string t505, .string t506] 32 (0, 0)) bk) : gb508 ≠ gb512)); have n6_ := Aside0.mk ((by rw [hg]; exact Nat.ne_of_gt (blk_lt (g := gb508) (o := .cells #[.string t505, .string t506] 32 (0, 0)) bk) : gb512 ≠ gb508)); clear BK508; clear HB; have BK508 := n0_; have HB := n1_; have BK512 := n2_; have GW512 := n3_; have GE512 := n4_; have NB508_512 := n5_; have NB512_508 := n6_; clear n0_ n1_ n2_ n3_ n4_ n5_ n6_; clear hb hbox hg; have hnb134 := NB512_508.out; have hnc134 := NB508_512.out; have hcz135_0 : w133.cell? ⟨gb512, 0, none⟩ = some (.string (⟨#[]⟩ : ByteArray)) := (blk_cell BK512.out 0).trans rfl; have hcz135_1 : w133.cell? ⟨gb512, 1, none⟩ = some (.string (⟨#[]⟩ : ByteArray)) := (blk_cell BK512.out 1).trans rfl; have hfz135_0 := blk_frozen BK512.out 0; have hfz135_1 := blk_frozen BK512.out 1))
     go_ret
     exact ⟨by first | rfl | (simp [errW_none, errW_some] <;> rfl) | (simp [*, errW_none, errW_some] <;> rfl), by repeat (first | (with_reducible first | exact HB.out | apply below_alloc | apply pw_below_drewN | apply below_drew1 | refine below_set ?_ GE508.out | refine below_set ?_ GE512.out) | exact HB.out)⟩
 ·replace c3 := Bool.eq_false_iff.mpr c3
  subst c3
  have H1 : (some false) = some r := by rw [if_neg (show ¬ (false = true) by decide)] at H; exact H
  clear H
  have H := H1
  clear H1
  obtain rfl := Option.some.inj H
  go_enter Tryd.func8, Tryd.ntmps8
  go_wp2_with (first | ((with_reducible refine gate_callee (f := 23) rfl ?_); refine goesL_ (some 9) rfl rfl Tryd.func23 (by kernel_rfl) rfl #[] rfl am ?_; (with_reducible refine (bulletinlaw13_works.calls k  false _ A2.out).mono ?_); rintro e w136 ⟨rfl, hb⟩; refine ⟨_, rfl, ?_⟩; have n0_ := Aside0.mk (below_step bw hb); clear HB; have HB := n0_; clear n0_; (try clear hb); (try clear hb2); (try clear hk); (try clear hi)))
  go_ret
  exact ⟨by first | rfl | (simp [errW_none, errW_some] <;> rfl) | (simp [*, errW_none, errW_some] <;> rfl), by repeat (first | (with_reducible first | exact HB.out | apply below_alloc | apply pw_below_drewN | apply below_drew1) | exact HB.out)⟩


end Go.Proofs.YtlomcmdbbnbciaaDoor.Fn
set_option linter.unusedVariables false
namespace Go.Proofs.YtlomcmdbbnbciaaDoor.Pl
open Go.RowKit Go.Proofs.YtlomcmdbbnbciaaDoorW.PrintWords Go.Proofs.YtlomcmdbbnbciaaDoor.Fn

/-! Layer 13, the program's, over lists of bytes. -/
theorem mono_up {α : Type} {f : Nat → Option α} (h : ∀ k, LeO (f k) (f (k + 1))) {r : α} {k : Nat} (hr : f k = some r) : ∀ (k' : Nat), k ≤ k' → f k' = some r := by
  intro k' hk
  obtain ⟨d, rfl⟩ : ∃ d, k' = k + d := ⟨k' - k, by omega⟩
  clear hk
  induction d with
  | zero => exact hr
  | succ d ih => exact h (k + d) r ih

def splitL (c : UInt8) : Bytes → List Bytes
  | [] => [[]]
  | x :: l => if x = c then [] :: splitL c l else match splitL c l with
    | [] => [[x]]
    | w :: r => (x :: w) :: r
theorem splitL_ne (c : UInt8) (l : Bytes) : splitL c l ≠ [] := by
  cases l with
  | nil => simp [splitL]
  | cons x l =>
    rw [splitL]
    split
    · simp
    · split <;> simp
theorem indexByte_neg (c : UInt8) : ∀ l : Bytes, Lib.indexByte l c < 0 → splitL c l = [l]
  | [], _ => rfl
  | b :: l, h => by
    rw [Lib.indexByte] at h
    have hb : ¬ (b == c) = true := fun q => by rw [if_pos q] at h; omega
    rw [if_neg hb] at h
    by_cases h2 : (Lib.indexByte l c == -1) = true
    · have h3 : Lib.indexByte l c = -1 := by simpa using h2
      rw [splitL, if_neg (by simpa using hb), indexByte_neg c l (by omega)]
    · rw [if_neg h2] at h
      have := Lib.indexByte_ge l c
      have h4 : Lib.indexByte l c ≠ -1 := by simpa using h2
      omega
theorem indexByte_nat (c : UInt8) : ∀ (l : Bytes) (n : Nat), Lib.indexByte l c = n → splitL c l = l.take n :: splitL c (l.drop (n + 1))
  | [], n, h => by simp [Lib.indexByte] at h
  | b :: l, n, h => by
    rw [Lib.indexByte] at h
    by_cases hb : (b == c) = true
    · rw [if_pos hb] at h
      obtain rfl : n = 0 := by omega
      rw [splitL, if_pos (by simpa using hb)]
      simp
    · rw [if_neg hb] at h
      by_cases h2 : (Lib.indexByte l c == -1) = true
      · rw [if_pos h2] at h; omega
      · rw [if_neg h2] at h
        have h3 := Lib.indexByte_ge l c
        have h4 : Lib.indexByte l c ≠ -1 := by simpa using h2
        obtain ⟨m, rfl⟩ : ∃ m, n = m + 1 := ⟨n - 1, by omega⟩
        have ih := indexByte_nat c l m (by omega)
        rw [splitL, if_neg (by simpa using hb), ih]
        simp
theorem cuts_split (c : UInt8) : ∀ (n : Nat) (s : ByteArray), s.size ≤ n → (cuts (findOne c) 1 s).map bs = splitL c (bs s)
  | n, s, hn => by
    by_cases h0 : findOne c s < 0
    · rw [cuts_last (finds_one c) s h0, indexByte_neg c (bs s) h0]
      rfl
    · obtain ⟨N, hN⟩ : ∃ N : Nat, findOne c s = (N : Int) := ⟨(findOne c s).toNat, by omega⟩
      have hfit := (finds_one c).fits s (by omega)
      rw [hN] at hfit
      simp only [Int.toNat_natCast] at hfit
      rw [cuts_more (finds_one c) s h0, hN, indexByte_nat c (bs s) N hN]
      obtain ⟨n, rfl⟩ : ∃ m, n = m + 1 := ⟨n - 1, by omega⟩
      have ih := cuts_split c n (s.extract (N + 1) s.size) (by simp only [ByteArray.size_extract]; omega)
      simp only [Int.toNat_natCast, List.map_cons, ih, bs_extract, List.drop_zero]
      rw [List.take_of_length_le (i := s.size) (by rw [bs_length]; exact Nat.le_refl _)]
theorem dots_split (s : ByteArray) : (dots s).map bs = splitL 46 (bs s) := cuts_split 46 s.size s (Nat.le_refl _)
theorem all_map_bs (p : Bytes → Bool) (l : List ByteArray) : (l.map bs).all p = l.all (fun x => p (bs x)) := by
  rw [List.all_map]; rfl

def atomL (w : Bytes) : Bool := w.all atomic && !w.isEmpty
def dottedL (l : Bytes) : Bool := (splitL 46 l).all atomL
theorem dotted_L (s : ByteArray) : dotted s = dottedL (bs s) := by
  unfold dotted dottedL
  rw [← dots_split, all_map_bs]
  rfl
def domLongL (l : Bytes) : Bool := decide (253 < l.length) || (splitL 46 l).any (fun w => decide (63 < w.length))
def domainL (l : Bytes) : Int := if (splitL 46 l).all labelL = true then (if domLongL l = true then 2 else 0) else 130
theorem domain_L (s : ByteArray) : domain s = domainL (bs s) := by
  unfold domain domainL domLong domLongL
  rw [← dots_split, all_map_bs, List.any_map]
  have e1 : (dots s).all label = (dots s).all (fun x => labelL (bs x)) := rfl
  have e2 : ((fun w : Bytes => decide (63 < w.length)) ∘ bs) = (fun x : ByteArray => decide (63 < (x.size : Int))) := by
    funext x
    simp only [Function.comp, bs_length]
    congr 1
    exact propext ⟨fun h => by omega, fun h => by omega⟩
  have e3 : decide (253 < (bs s).length) = decide (253 < (s.size : Int)) := by
    rw [bs_length]
    congr 1
    exact propext ⟨fun h => by omega, fun h => by omega⟩
  rw [e1, e2, e3]

/-! Quote -/
def text (c : UInt8) : Bool := (lex_text.f (c.toNat : Int)).getD false
theorem text_is (c : UInt8) : lex_text.f (c.toNat : Int) = some (text c) := by
  have : ∀ x : Int, (lex_text.f x).isSome := by
    intro x
    unfold lex_text.f
    repeat' split
    all_goals rfl
  unfold text
  have h := this (c.toNat : Int)
  cases hx : lex_text.f (c.toNat : Int) with
  | none => rw [hx] at h; cases h
  | some b => rfl
def qB (c : UInt8) : Bytes := if c = 34 ∨ c = 92 then [92, c] else if text c = true then [c] else [32]
def quote (l : Bytes) : Bytes := 34 :: (l.flatMap qB ++ [34])
def numsOf (l : Bytes) : List Int := l.map fun c => (c.toNat : Int)
theorem strOfNums_of (l : Bytes) : strOfNums (numsOf l) = str l := by
  unfold strOfNums numsOf str
  congr 2
  rw [List.map_map]
  conv => rhs; rw [← List.map_id l]
  apply List.map_congr_left
  intro c _
  simp
theorem numsOf_app (a b : Bytes) : numsOf (a ++ b) = numsOf a ++ numsOf b := by simp [numsOf]
theorem numsOf_length (a : Bytes) : (numsOf a).length = a.length := by simp [numsOf]
theorem byte_eq (c : UInt8) (n : Nat) (h : n < 256) : ((c.toNat : Int) = (n : Int)) = (c = UInt8.ofNat n) := by
  apply propext
  constructor
  · intro q
    apply UInt8.toNat_inj.1
    simp
    omega
  · intro q
    rw [q]
    simp
    omega
theorem lexQuote_l0 (s : ByteArray) (hs : s.size ≤ 1000000000) : ∀ (rest : Bytes) (i k : Nat) (acc : Bytes), (bs s).drop i = rest → i ≤ (bs s).length → 2 * rest.length + 1 ≤ k → acc.length ≤ 2 * i + 1 →
    lex_Quote.l0 k s (numsOf acc) (s.size : Int) (i : Int) = some (str (acc ++ rest.flatMap qB ++ [34]))
  | [], i, k, acc, hd, hi, hk, ha => by
    obtain ⟨k, rfl⟩ : ∃ j, k = j + 1 := ⟨k - 1, by omega⟩
    have := drop_nil hd
    rw [bs_length] at this hi
    rw [lex_Quote.l0, if_neg (by omega), if_pos (by rw [numsOf_length]; omega)]
    rw [show numsOf acc ++ [34] = numsOf (acc ++ [34]) by rw [numsOf_app]; rfl, strOfNums_of]
    simp
  | c :: rest, i, k, acc, hd, hi, hk, ha => by
    obtain ⟨k, rfl⟩ : ∃ j, k = j + 1 + 1 := ⟨k - 2, by simp at hk; omega⟩
    obtain ⟨h1, h2, h3, h4⟩ := drop_cons hd
    have h5 : i < s.size := by rw [bs_length] at h1; exact h1
    simp only [List.length_cons] at hk
    have e34 : ((c.toNat : Int) = 34) = (c = 34) := byte_eq c 34 (by decide)
    have e92 : ((c.toNat : Int) = 92) = (c = 92) := byte_eq c 92 (by decide)
    have goon : ∀ acc' : Bytes, acc'.length ≤ acc.length + 2 → lex_Quote.l0 k s (numsOf acc') (s.size : Int) (wrap64 ((i : Int) + 1)) = some (str (acc' ++ rest.flatMap qB ++ [34])) := by
      intro acc' hl
      rw [wrap_succ i (by omega)]
      exact lexQuote_l0 s hs rest (i + 1) k acc' h3 (by omega) (by omega) (by omega)
    have hl1 : (numsOf acc).length < 140737488355328 := by rw [numsOf_length]; omega
    have esc : c = 34 ∨ c = 92 → lex_Quote.j1 (k + 1) s (numsOf acc) (c.toNat : Int) (s.size : Int) (i : Int) true = some (str (acc ++ (c :: rest).flatMap qB ++ [34])) := by
      intro hc
      rw [lex_Quote.j1, if_pos rfl, if_pos hl1]
      simp only [Option.bind_some]
      rw [if_pos (by rw [List.length_append, numsOf_length]; simp; omega)]
      rw [show numsOf acc ++ [92] ++ [(c.toNat : Int)] = numsOf (acc ++ [92, c]) by simp [numsOf], goon _ (by simp)]
      simp [qB, hc]
    rw [lex_Quote.l0, if_pos (by omega), if_pos (by omega), if_pos (by omega), bt_drop hd]
    by_cases c34 : c = 34
    · rw [if_pos (by rw [e34]; exact c34), esc (.inl c34)]
    · rw [if_neg (by rw [e34]; exact c34)]
      by_cases c92 : c = 92
      · rw [show ((c.toNat : Int) == 92) = true by rw [beq_iff_eq, e92]; exact c92, esc (.inr c92)]
      · rw [show ((c.toNat : Int) == 92) = false by rw [beq_eq_false_iff_ne, ne_eq, e92]; exact c92, lex_Quote.j1, if_neg (by decide), text_is]
        simp only [Option.bind_some]
        have hn : ¬ (c = 34 ∨ c = 92) := fun h => h.elim c34 c92
        cases ht : text c with
        | true =>
          rw [if_pos rfl, if_pos hl1, show numsOf acc ++ [(c.toNat : Int)] = numsOf (acc ++ [c]) by simp [numsOf], goon _ (by simp)]
          simp [qB, hn, ht]
        | false =>
          rw [if_neg (by decide), if_pos hl1, show numsOf acc ++ [32] = numsOf (acc ++ [32]) by simp [numsOf], goon _ (by simp)]
          simp [qB, hn, ht]
theorem lexQuote_is (s : ByteArray) (hs : s.size ≤ 1000000000) (k : Nat) (hk : 2 * s.size + 1 ≤ k) : lex_Quote.f k s = some (str (quote (bs s))) := by
  have := lexQuote_l0 s hs (bs s) 0 k [34] (by simp) (by omega) (by rw [bs_length]; omega) (by simp)
  unfold lex_Quote.f quote
  exact this
theorem quote_length (l : Bytes) : (quote l).length ≤ 2 * l.length + 2 := by
  have h : (l.flatMap qB).length ≤ 2 * l.length := by
    induction l with
    | nil => simp
    | cons c l ih =>
      have : (qB c).length ≤ 2 := by unfold qB; repeat' split
                                     all_goals simp
      simp only [List.flatMap_cons, List.length_append, List.length_cons]
      omega
  unfold quote
  simp only [List.length_cons, List.length_append, List.length_nil]
  omega

/-! Text, Key, why, Right -/
def localL (a : Bytes) : Bytes := if dottedL a = true then a else quote a
def textL (a b : Bytes) : Bytes := localL a ++ 64 :: b
theorem localL_length (a : Bytes) : (localL a).length ≤ 2 * a.length + 2 := by
  unfold localL
  have := quote_length a
  split <;> omega
theorem addrText_is (a b : ByteArray) (ha : a.size ≤ 1000000) (hb : b.size ≤ 1000000) (k : Nat) (hk : 2 * a.size + 1 ≤ k) : addr_Addr_Text.f k a b = some (str (textL (bs a) (bs b))) := by
  unfold addr_Addr_Text.f addr_Dotted.f textL localL
  rw [if_pos (by omega)]
  simp only [Option.bind_some]
  rw [dotted_L]
  cases hd : dottedL (bs a) with
  | true =>
    rw [if_pos rfl, if_pos (by omega), if_pos (by simp only [ByteArray.size_append]; have : (⟨#[64]⟩ : ByteArray).size = 1 := rfl; omega), if_pos rfl]
    congr 1
    apply bs_inj
    rw [bs_app, bs_app, bs_str]
    simp [bs]
  | false =>
    have hq := quote_length (bs a)
    rw [bs_length] at hq
    rw [if_neg (by decide), lexQuote_is a (by omega) k hk]
    simp only [Option.bind_some]
    rw [if_pos (by rw [str_size]; omega), if_pos (by simp only [ByteArray.size_append, str_size]; have : (⟨#[64]⟩ : ByteArray).size = 1 := rfl; omega), if_neg (by decide)]
    congr 1
    apply bs_inj
    rw [bs_app, bs_app, bs_str, bs_str]
    simp [bs]
theorem textL_length (a b : Bytes) : (textL a b).length ≤ 2 * a.length + 3 + b.length := by
  unfold textL
  have := localL_length a
  simp
  omega
theorem addrKey_is (a b : ByteArray) (ha : a.size ≤ 1000000) (hb : b.size ≤ 1000000) (k : Nat) (hk : 2 * a.size + 1 ≤ k) : addr_Addr_Key.f k a b = some (str (fold (textL (bs a) (bs b)))) := by
  unfold addr_Addr_Key.f
  rw [addrText_is a b ha hb k hk]
  have := textL_length (bs a) (bs b)
  rw [bs_length, bs_length] at this
  simp only [Option.bind_some]
  unfold glyph_Fold.f
  rw [if_pos (by rw [str_size]; omega)]
  simp only [Option.bind_some]
  rw [show (str (textL (bs a) (bs b))).data.toList = textL (bs a) (bs b) from str_data _]
def why (a b : ByteArray) : Int :=
  if domain b = 130 ∨ bs a = [] ∨ plain a = false then 130
  else if domain b ≠ 0 ∨ 64 < a.size ∨ 254 < (textL (bs a) (bs b)).length then 2 else 0
theorem addrWhy_is (a b : ByteArray) (ha : a.size ≤ 1000000) (hb : b.size ≤ 1000000) (k : Nat) (hk : 2 * a.size + 1 + 1 ≤ k) : addr_why.f k a b = some (why a b) := by
  unfold addr_why.f addr_domain.f why
  rw [if_pos (by omega)]
  simp only [Option.bind_some]
  obtain ⟨k, rfl⟩ : ∃ j, k = j + 1 := ⟨k - 1, by omega⟩
  have yes : addr_why.j0 (k + 1) (domain b) true a b = some 130 := by rw [addr_why.j0, if_pos rfl]
  by_cases h1 : domain b = 130
  · rw [if_pos h1, if_pos (.inl h1), yes]
  · rw [if_neg h1]
    by_cases h2 : bs a = []
    · rw [if_pos (by rw [toList_bs]; exact h2), if_pos (.inr (.inl h2)), yes]
    · rw [if_neg (by rw [toList_bs]; exact h2)]
      unfold glyph_Plain.f
      rw [if_pos (by omega)]
      simp only [Option.bind_some]
      cases hp : plain a with
      | false => rw [if_pos (.inr (.inr rfl)), show (!false) = true from rfl, yes]
      | true =>
        rw [if_neg (by simp [h1, h2]), show (!true) = false from rfl, addr_why.j0, if_neg (by decide)]
        by_cases h3 : domain b = 0
        · rw [if_pos h3]
          by_cases h4 : (a.size : Int) > 64
          · rw [if_pos h4, if_pos (.inr (.inl (by omega)))]
          · rw [if_neg h4, addrText_is a b ha hb k (by omega)]
            simp only [Option.bind_some]
            rw [str_size]
            by_cases h5 : ((textL (bs a) (bs b)).length : Int) > 254
            · rw [if_pos h5, if_pos (.inr (.inr (by omega)))]
            · rw [if_neg h5, if_neg (by rintro (h | h | h); exact h h3; omega; omega)]
        · rw [if_neg h3, if_pos (.inl h3)]
def right (a b : ByteArray) : Bool := decide (why a b = 0) && (bs b == fold (bs b))
theorem addrRight_is (a b : ByteArray) (ha : a.size ≤ 1000000) (hb : b.size ≤ 1000000) (k : Nat) (hk : 2 * a.size + 1 + 1 ≤ k) : addr_Addr_Right.f k a b = some (right a b) := by
  unfold addr_Addr_Right.f right
  rw [addrWhy_is a b ha hb k hk]
  simp only [Option.bind_some]
  by_cases h : why a b = 0
  · rw [if_pos h]
    unfold glyph_Fold.f
    rw [if_pos (by omega)]
    simp only [Option.bind_some]
    rw [toList_bs, toList_str]
    simp [h, bs]
  · rw [if_neg h]
    simp [h]
end Go.Proofs.YtlomcmdbbnbciaaDoor.Pl
set_option linter.unusedVariables false
namespace Go.Proofs.YtlomcmdbbnbciaaDoor.Pl
open Go.RowKit Go.Proofs.YtlomcmdbbnbciaaDoorW.PrintWords Go.Proofs.YtlomcmdbbnbciaaDoor.Fn

/-! Capital letters, dots, quotes and the sign @. -/
theorem forall_byte {p : UInt8 → Prop} [DecidablePred p] (h : ∀ i : Fin 256, p (UInt8.ofNat i.val)) (c : UInt8) : p c := by
  have := h ⟨c.toNat, c.toNat_lt⟩
  simpa using this
set_option maxRecDepth 100000 in
theorem foldB_idem (c : UInt8) : foldB (foldB c) = foldB c := forall_byte (p := fun c => foldB (foldB c) = foldB c) (by decide +kernel) c
def plainB (c : UInt8) : Bool := decide (32 ≤ c.toNat) && decide (c.toNat ≤ 126)
set_option maxRecDepth 100000 in
theorem plain_text (c : UInt8) : plainB c = true → text c = true := forall_byte (p := fun c => plainB c = true → text c = true) (by decide +kernel) c
theorem fold_idem (l : Bytes) : fold (fold l) = fold l := by
  unfold fold
  rw [List.map_map]
  apply List.map_congr_left
  intro c _
  exact foldB_idem c
theorem labelL_bytes {w : Bytes} (h : labelL w = true) {c : UInt8} (hc : c ∈ w) : labelled c = true := by
  unfold labelL at h
  rw [Bool.and_eq_true] at h
  exact List.all_eq_true.1 h.1 c hc
theorem glyphFold_is (s : ByteArray) (h : s.size ≤ 1000000000) : glyph_Fold.f s = some (str (fold (bs s))) := by
  unfold glyph_Fold.f
  rw [if_pos (by omega)]
  rfl

/-! plain: of all bytes -/
theorem plainFrom_bytes (s : ByteArray) : ∀ (f pos : Nat), s.size ≤ pos + f → pos ≤ s.size → plainFrom s f pos = ((bs s).drop pos).all plainB := by
  intro f
  induction f with
  | zero =>
    intro pos h1 h2
    rw [plainFrom, List.drop_of_length_le (by rw [bs_length]; omega)]
    rfl
  | succ f ih =>
    intro pos h1 h2
    rw [plainFrom]
    by_cases hp : pos < s.size
    · rw [if_pos hp]
      have hl : pos < (bs s).length := by rw [bs_length]; exact hp
      have hd : (bs s).drop pos = (bs s)[pos] :: (bs s).drop (pos + 1) := List.drop_eq_getElem_cons hl
      rw [hd, List.all_cons]
      have hg : s.get! pos = (bs s)[pos] := by
        simp [ByteArray.get!, getElem!_pos, hp, bs]
      by_cases hb : (bs s)[pos].toNat < 128
      · have hdec : Utf8.decode s pos = ((bs s)[pos].toNat, 1) := by
          rw [Lib.decode_at, hg]
          unfold Lib.decodeN
          rw [if_pos hb]
        rw [hdec]
        by_cases hpl : plainB (bs s)[pos] = true
        · rw [if_pos (by exact hpl), ih (pos + 1) (by omega) (by omega), hpl, Bool.true_and]
        · rw [if_neg (by exact hpl)]
          rw [Bool.not_eq_true] at hpl
          rw [hpl, Bool.false_and]
      · have hdec : 128 ≤ (Utf8.decode s pos).1 := by
          rw [Lib.decode_at, hg]
          unfold Lib.decodeN
          rw [if_neg hb]
          have := (bs s)[pos].toNat_lt
          repeat' split
          all_goals (first | omega | (simp only []; omega))
        rw [if_neg (by unfold plainR; simp; omega)]
        have : plainB (bs s)[pos] = false := by unfold plainB; simp; omega
        rw [this, Bool.false_and]
    · rw [if_neg hp, List.drop_of_length_le (by rw [bs_length]; omega)]
      rfl
theorem plain_L (s : ByteArray) : plain s = (bs s).all plainB := by
  unfold plain
  rw [plainFrom_bytes s s.size 0 (by omega) (by omega), List.drop_zero]
end Go.Proofs.YtlomcmdbbnbciaaDoor.Pl
-- written by xprint.py of this session over the kit's printer; not trusted: Lean checks it
namespace Go.Proofs.YtlomcmdbbnbciaaDoor.Fn
open Go.RowKit Go.Proofs.YtlomcmdbbnbciaaDoorW.PrintWords Go.Proofs.YtlomcmdbbnbciaaDoorW.PrintLast Go.Proofs.YtlomcmdbbnbciaaDoorW.PrintMore
attribute [local go_sem] max2_int min2_int max_two min_two max_three min_three max_four min_four   -- for this text's walks alone
set_option linter.unusedVariables false
set_option linter.unusedSimpArgs false

/-! ### bulletinref06_Fold: function 78 -/
def bulletinref06_Fold.l0 : Nat → ByteArray → ByteArray → Int → Option (ByteArray)
 | 0, _, _, _ => none
 | k + 1, x0, x3, x4 => if x4 < (x0.size : Int) then (if 0 ≤ x4 then (if (bt x0 x4) ≥ 65 then (if (bt x0 x4) ≤ 90 then ((some (([((bt x0 x4) + 32) % 256] : List Int) : List Int)).bind fun y358 => (if x3.size + (strOfNums y358).size ≤ 9223372036854775807 then (bulletinref06_Fold.l0 k x0 (x3 ++ (strOfNums y358)) (wrap64 (x4 + 1))) else (none))) else (if x4 ≤ (wrap64 (x4 + 1)) then (if (wrap64 (x4 + 1)) ≤ (x0.size : Int) then (if x3.size + (x0.extract (x4 : Int).toNat ((wrap64 (x4 + 1)) : Int).toNat).size ≤ 9223372036854775807 then (bulletinref06_Fold.l0 k x0 (x3 ++ (x0.extract (x4 : Int).toNat ((wrap64 (x4 + 1)) : Int).toNat)) (wrap64 (x4 + 1))) else (none)) else (none)) else (none))) else (if x4 ≤ (wrap64 (x4 + 1)) then (if (wrap64 (x4 + 1)) ≤ (x0.size : Int) then (if x3.size + (x0.extract (x4 : Int).toNat ((wrap64 (x4 + 1)) : Int).toNat).size ≤ 9223372036854775807 then (bulletinref06_Fold.l0 k x0 (x3 ++ (x0.extract (x4 : Int).toNat ((wrap64 (x4 + 1)) : Int).toNat)) (wrap64 (x4 + 1))) else (none)) else (none)) else (none))) else (none)) else (some x3)
def bulletinref06_Fold.f (k : Nat) (a0 : ByteArray) : Option (ByteArray) := bulletinref06_Fold.l0 k a0 (⟨#[]⟩ : ByteArray) 0
end Go.Proofs.YtlomcmdbbnbciaaDoor.Fn
-- written by xprint.py of this session over the kit's printer; not trusted: Lean checks it
namespace Go.Proofs.YtlomcmdbbnbciaaDoor.Fn
open Go.RowKit Go.Proofs.YtlomcmdbbnbciaaDoorW.PrintWords Go.Proofs.YtlomcmdbbnbciaaDoorW.PrintLast Go.Proofs.YtlomcmdbbnbciaaDoorW.PrintMore
attribute [local go_sem] max2_int min2_int max_two min_two max_three min_three max_four min_four   -- for this text's walks alone
set_option linter.unusedVariables false
set_option linter.unusedSimpArgs false

/-! ### bulletinref13_Split: function 76 -/
def bulletinref13_Split.l0 : Nat → ByteArray → Int → List ByteArray → ByteArray → Int → Option (List ByteArray)
 | 0, _, _, _, _, _ => none
 | k + 1, x0, x1, x5, x6, x7 => if x7 < (x0.size : Int) then (if 0 ≤ x7 then (if (bt x0 x7) = x1 then (if x5.length < 8796093022208 then (bulletinref13_Split.l0 k x0 x1 (x5 ++ [x6]) (⟨#[]⟩ : ByteArray) (wrap64 (x7 + 1))) else (none)) else (if x7 ≤ (wrap64 (x7 + 1)) then (if (wrap64 (x7 + 1)) ≤ (x0.size : Int) then (if x6.size + (x0.extract (x7 : Int).toNat ((wrap64 (x7 + 1)) : Int).toNat).size ≤ 9223372036854775807 then (bulletinref13_Split.l0 k x0 x1 x5 (x6 ++ (x0.extract (x7 : Int).toNat ((wrap64 (x7 + 1)) : Int).toNat)) (wrap64 (x7 + 1))) else (none)) else (none)) else (none))) else (none)) else (if x5.length < 8796093022208 then (some (x5 ++ [x6])) else (none))
def bulletinref13_Split.f (k : Nat) (a0 : ByteArray) (a1 : Int) : Option (List ByteArray) := bulletinref13_Split.l0 k a0 a1 ([] : List ByteArray) (⟨#[]⟩ : ByteArray) 0
end Go.Proofs.YtlomcmdbbnbciaaDoor.Fn
-- written by xprint.py of this session over the kit's printer; not trusted: Lean checks it
namespace Go.Proofs.YtlomcmdbbnbciaaDoor.Fn
open Go.RowKit Go.Proofs.YtlomcmdbbnbciaaDoorW.PrintWords Go.Proofs.YtlomcmdbbnbciaaDoorW.PrintLast Go.Proofs.YtlomcmdbbnbciaaDoorW.PrintMore
attribute [local go_sem] max2_int min2_int max_two min_two max_three min_three max_four min_four   -- for this text's walks alone
set_option linter.unusedVariables false
set_option linter.unusedSimpArgs false

/-! ### bulletinref13_label: function 77 -/
mutual
def bulletinref13_label.l0 : Nat → ByteArray → Int → Option (Bool)
 | 0, _, _ => none
 | k + 1, x0, x3 => if x3 < (x0.size : Int) then (if 0 ≤ x3 then (if (bt x0 x3) ≥ 65 then (bulletinref13_label.j1 k x0 x3 (bt x0 x3) (decide ((bt x0 x3) ≤ 90))) else (bulletinref13_label.j1 k x0 x3 (bt x0 x3) false)) else (none)) else (some (x0.toList != ([] : List UInt8)))
def bulletinref13_label.j1 : Nat → ByteArray → Int → Int → Bool → Option (Bool)
 | 0, _, _, _, _ => none
 | k + 1, x0, x3, x4, x20 => if x20 = true then (if x3 = 0 then (if ((x4 + 32) % 256) ≥ 97 then (if ((x4 + 32) % 256) ≤ 122 then (bulletinref13_label.l0 k x0 (wrap64 (x3 + 1))) else (if ((x4 + 32) % 256) ≥ 48 then (if ((x4 + 32) % 256) ≤ 57 then (bulletinref13_label.l0 k x0 (wrap64 (x3 + 1))) else (if ((x4 + 32) % 256) = 45 then (some false) else (some false))) else (if ((x4 + 32) % 256) = 45 then (some false) else (some false)))) else (if ((x4 + 32) % 256) ≥ 48 then (if ((x4 + 32) % 256) ≤ 57 then (bulletinref13_label.l0 k x0 (wrap64 (x3 + 1))) else (if ((x4 + 32) % 256) = 45 then (some false) else (some false))) else (if ((x4 + 32) % 256) = 45 then (some false) else (some false)))) else (if ((x4 + 32) % 256) ≥ 97 then (if ((x4 + 32) % 256) ≤ 122 then (bulletinref13_label.l0 k x0 (wrap64 (x3 + 1))) else (if ((x4 + 32) % 256) ≥ 48 then (if ((x4 + 32) % 256) ≤ 57 then (bulletinref13_label.l0 k x0 (wrap64 (x3 + 1))) else (if ((x4 + 32) % 256) = 45 then (if x3 = (wrap64 ((x0.size : Int) - 1)) then (some false) else (bulletinref13_label.l0 k x0 (wrap64 (x3 + 1)))) else (some false))) else (if ((x4 + 32) % 256) = 45 then (if x3 = (wrap64 ((x0.size : Int) - 1)) then (some false) else (bulletinref13_label.l0 k x0 (wrap64 (x3 + 1)))) else (some false)))) else (if ((x4 + 32) % 256) ≥ 48 then (if ((x4 + 32) % 256) ≤ 57 then (bulletinref13_label.l0 k x0 (wrap64 (x3 + 1))) else (if ((x4 + 32) % 256) = 45 then (if x3 = (wrap64 ((x0.size : Int) - 1)) then (some false) else (bulletinref13_label.l0 k x0 (wrap64 (x3 + 1)))) else (some false))) else (if ((x4 + 32) % 256) = 45 then (if x3 = (wrap64 ((x0.size : Int) - 1)) then (some false) else (bulletinref13_label.l0 k x0 (wrap64 (x3 + 1)))) else (some false))))) else (if x3 = 0 then (if x4 ≥ 97 then (if x4 ≤ 122 then (bulletinref13_label.l0 k x0 (wrap64 (x3 + 1))) else (if x4 ≥ 48 then (if x4 ≤ 57 then (bulletinref13_label.l0 k x0 (wrap64 (x3 + 1))) else (if x4 = 45 then (some false) else (some false))) else (if x4 = 45 then (some false) else (some false)))) else (if x4 ≥ 48 then (if x4 ≤ 57 then (bulletinref13_label.l0 k x0 (wrap64 (x3 + 1))) else (if x4 = 45 then (some false) else (some false))) else (if x4 = 45 then (some false) else (some false)))) else (if x4 ≥ 97 then (if x4 ≤ 122 then (bulletinref13_label.l0 k x0 (wrap64 (x3 + 1))) else (if x4 ≥ 48 then (if x4 ≤ 57 then (bulletinref13_label.l0 k x0 (wrap64 (x3 + 1))) else (if x4 = 45 then (if x3 = (wrap64 ((x0.size : Int) - 1)) then (some false) else (bulletinref13_label.l0 k x0 (wrap64 (x3 + 1)))) else (some false))) else (if x4 = 45 then (if x3 = (wrap64 ((x0.size : Int) - 1)) then (some false) else (bulletinref13_label.l0 k x0 (wrap64 (x3 + 1)))) else (some false)))) else (if x4 ≥ 48 then (if x4 ≤ 57 then (bulletinref13_label.l0 k x0 (wrap64 (x3 + 1))) else (if x4 = 45 then (if x3 = (wrap64 ((x0.size : Int) - 1)) then (some false) else (bulletinref13_label.l0 k x0 (wrap64 (x3 + 1)))) else (some false))) else (if x4 = 45 then (if x3 = (wrap64 ((x0.size : Int) - 1)) then (some false) else (bulletinref13_label.l0 k x0 (wrap64 (x3 + 1)))) else (some false)))))
end
def bulletinref13_label.f (k : Nat) (a0 : ByteArray) : Option (Bool) := bulletinref13_label.l0 k a0 0
end Go.Proofs.YtlomcmdbbnbciaaDoor.Fn
-- written by xprint.py of this session over the kit's printer; not trusted: Lean checks it
namespace Go.Proofs.YtlomcmdbbnbciaaDoor.Fn
open Go.RowKit Go.Proofs.YtlomcmdbbnbciaaDoorW.PrintWords Go.Proofs.YtlomcmdbbnbciaaDoorW.PrintLast Go.Proofs.YtlomcmdbbnbciaaDoorW.PrintMore
attribute [local go_sem] max2_int min2_int max_two min_two max_three min_three max_four min_four   -- for this text's walks alone
set_option linter.unusedVariables false
set_option linter.unusedSimpArgs false

/-! ### bulletinref13_Domain: function 28 -/
def bulletinref13_Domain.l0 : Nat → ByteArray → List ByteArray → Bool → Int → Option (ByteArray × Int)
 | 0, _, _, _, _ => none
 | k + 1, x0, x4, x5, x6 => if x6 < (x4.length : Int) then (if 0 ≤ x6 then ((bulletinref13_label.f k (rdOf ByteArray.empty x4 x6)).bind fun t366 => (if t366 = true then (if ((rdOf ByteArray.empty x4 x6).size : Int) > 63 then (bulletinref13_Domain.l0 k x0 x4 true (wrap64 (x6 + 1))) else (bulletinref13_Domain.l0 k x0 x4 x5 (wrap64 (x6 + 1)))) else (some ((⟨#[]⟩ : ByteArray), 130)))) else (none)) else (if x5 = true then (some ((⟨#[]⟩ : ByteArray), 2)) else ((bulletinref06_Fold.f k x0).bind fun t364 => (some (t364, 0))))
def bulletinref13_Domain.f (k : Nat) (a0 : ByteArray) : Option (ByteArray × Int) := (bulletinref13_Split.f k a0 46).bind fun t361 => (bulletinref13_Domain.l0 k a0 t361 (decide ((a0.size : Int) > 253)) 0)
end Go.Proofs.YtlomcmdbbnbciaaDoor.Fn
-- written by xprint.py of this session over the kit's printer; not trusted: Lean checks it
namespace Go.Proofs.YtlomcmdbbnbciaaDoor.Fn
open Go.RowKit Go.Proofs.YtlomcmdbbnbciaaDoorW.PrintWords Go.Proofs.YtlomcmdbbnbciaaDoorW.PrintLast Go.Proofs.YtlomcmdbbnbciaaDoorW.PrintMore
attribute [local go_sem] max2_int min2_int max_two min_two max_three min_three max_four min_four   -- for this text's walks alone
set_option linter.unusedVariables false
set_option linter.unusedSimpArgs false

/-! ### bulletinref12_Text: function 120 -/
def bulletinref12_Text.f (a0 : Int) : Option (Bool) := if a0 = 9 then (some true) else (if a0 ≥ 32 then (if a0 ≤ 126 then (some true) else (some (decide (a0 > 127)))) else (some (decide (a0 > 127))))
end Go.Proofs.YtlomcmdbbnbciaaDoor.Fn
-- written by xprint.py of this session over the kit's printer; not trusted: Lean checks it
namespace Go.Proofs.YtlomcmdbbnbciaaDoor.Fn
open Go.RowKit Go.Proofs.YtlomcmdbbnbciaaDoorW.PrintWords Go.Proofs.YtlomcmdbbnbciaaDoorW.PrintLast Go.Proofs.YtlomcmdbbnbciaaDoorW.PrintMore
attribute [local go_sem] max2_int min2_int max_two min_two max_three min_three max_four min_four   -- for this text's walks alone
set_option linter.unusedVariables false
set_option linter.unusedSimpArgs false

/-! ### bulletinref12_Quote: function 80 -/
mutual
def bulletinref12_Quote.l0 : Nat → ByteArray → ByteArray → Int → Option (ByteArray)
 | 0, _, _, _ => none
 | k + 1, x0, x3, x4 => if x4 < (x0.size : Int) then (if 0 ≤ x4 then (if x4 ≤ (wrap64 (x4 + 1)) then (if (wrap64 (x4 + 1)) ≤ (x0.size : Int) then (if (bt x0 x4) = 34 then (bulletinref12_Quote.j1 k x0 x3 x4 (x0.extract (x4 : Int).toNat ((wrap64 (x4 + 1)) : Int).toNat) true) else (bulletinref12_Quote.j1 k x0 x3 x4 (x0.extract (x4 : Int).toNat ((wrap64 (x4 + 1)) : Int).toNat) ((bt x0 x4) == 92))) else (none)) else (none)) else (none)) else (if 1 + x3.size ≤ 9223372036854775807 then (if ((⟨#[34]⟩ : ByteArray) ++ x3).size + 1 ≤ 9223372036854775807 then (some (((⟨#[34]⟩ : ByteArray) ++ x3) ++ (⟨#[34]⟩ : ByteArray))) else (none)) else (none))
def bulletinref12_Quote.j1 : Nat → ByteArray → ByteArray → Int → ByteArray → Bool → Option (ByteArray)
 | 0, _, _, _, _, _ => none
 | k + 1, x0, x3, x4, x5, x26 => if x26 = true then (if 1 + x5.size ≤ 9223372036854775807 then (if 0 ≤ x4 then (if x4 < (x0.size : Int) then ((bulletinref12_Text.f (bt x0 x4)).bind fun t375 => (if t375 = true then (if x3.size + ((⟨#[92]⟩ : ByteArray) ++ x5).size ≤ 9223372036854775807 then (bulletinref12_Quote.l0 k x0 (x3 ++ ((⟨#[92]⟩ : ByteArray) ++ x5)) (wrap64 (x4 + 1))) else (none)) else (if x3.size + 1 ≤ 9223372036854775807 then (bulletinref12_Quote.l0 k x0 (x3 ++ (⟨#[32]⟩ : ByteArray)) (wrap64 (x4 + 1))) else (none)))) else (none)) else (none)) else (none)) else (if 0 ≤ x4 then (if x4 < (x0.size : Int) then ((bulletinref12_Text.f (bt x0 x4)).bind fun t376 => (if t376 = true then (if x3.size + x5.size ≤ 9223372036854775807 then (bulletinref12_Quote.l0 k x0 (x3 ++ x5) (wrap64 (x4 + 1))) else (none)) else (if x3.size + 1 ≤ 9223372036854775807 then (bulletinref12_Quote.l0 k x0 (x3 ++ (⟨#[32]⟩ : ByteArray)) (wrap64 (x4 + 1))) else (none)))) else (none)) else (none))
end
def bulletinref12_Quote.f (k : Nat) (a0 : ByteArray) : Option (ByteArray) := bulletinref12_Quote.l0 k a0 (⟨#[]⟩ : ByteArray) 0
end Go.Proofs.YtlomcmdbbnbciaaDoor.Fn
-- written by xprint.py of this session over the kit's printer; not trusted: Lean checks it
namespace Go.Proofs.YtlomcmdbbnbciaaDoor.Fn
open Go.RowKit Go.Proofs.YtlomcmdbbnbciaaDoorW.PrintWords Go.Proofs.YtlomcmdbbnbciaaDoorW.PrintLast Go.Proofs.YtlomcmdbbnbciaaDoorW.PrintMore
attribute [local go_sem] max2_int min2_int max_two min_two max_three min_three max_four min_four   -- for this text's walks alone
set_option linter.unusedVariables false
set_option linter.unusedSimpArgs false

/-! ### bulletinref13_Dotted: function 34 -/
def bulletinref13_Dotted.l0 : Nat → List ByteArray → Int → Option (Bool)
 | 0, _, _ => none
 | k + 1, x3, x4 => if x4 < (x3.length : Int) then (if 0 ≤ x4 then ((bulletinref12_IsAtom.f k (rdOf ByteArray.empty x3 x4)).bind fun t374 => (if t374 = true then (bulletinref13_Dotted.l0 k x3 (wrap64 (x4 + 1))) else (some false))) else (none)) else (some true)
def bulletinref13_Dotted.f (k : Nat) (a0 : ByteArray) : Option (Bool) := (bulletinref13_Split.f k a0 46).bind fun t370 => (bulletinref13_Dotted.l0 k t370 0)
end Go.Proofs.YtlomcmdbbnbciaaDoor.Fn
-- written by xprint.py of this session over the kit's printer; not trusted: Lean checks it
namespace Go.Proofs.YtlomcmdbbnbciaaDoor.Fn
open Go.RowKit Go.Proofs.YtlomcmdbbnbciaaDoorW.PrintWords Go.Proofs.YtlomcmdbbnbciaaDoorW.PrintLast Go.Proofs.YtlomcmdbbnbciaaDoorW.PrintMore
attribute [local go_sem] max2_int min2_int max_two min_two max_three min_three max_four min_four   -- for this text's walks alone
set_option linter.unusedVariables false
set_option linter.unusedSimpArgs false

/-! ### bulletinref13_Text: function 30 -/
def bulletinref13_Text.f (k : Nat) (a0_0 : ByteArray) (a0_1 : ByteArray) : Option (ByteArray) := (bulletinref13_Dotted.f k a0_0).bind fun t378 => (if t378 = true then (if a0_0.size + 1 ≤ 9223372036854775807 then (if (a0_0 ++ (⟨#[64]⟩ : ByteArray)).size + a0_1.size ≤ 9223372036854775807 then (some ((a0_0 ++ (⟨#[64]⟩ : ByteArray)) ++ a0_1)) else (none)) else (none)) else ((bulletinref12_Quote.f k a0_0).bind fun t379 => (if t379.size + 1 ≤ 9223372036854775807 then (if (t379 ++ (⟨#[64]⟩ : ByteArray)).size + a0_1.size ≤ 9223372036854775807 then (some ((t379 ++ (⟨#[64]⟩ : ByteArray)) ++ a0_1)) else (none)) else (none))))
end Go.Proofs.YtlomcmdbbnbciaaDoor.Fn
-- written by xprint.py of this session over the kit's printer; not trusted: Lean checks it
namespace Go.Proofs.YtlomcmdbbnbciaaDoor.Fn
open Go.RowKit Go.Proofs.YtlomcmdbbnbciaaDoorW.PrintWords Go.Proofs.YtlomcmdbbnbciaaDoorW.PrintLast Go.Proofs.YtlomcmdbbnbciaaDoorW.PrintMore
attribute [local go_sem] max2_int min2_int max_two min_two max_three min_three max_four min_four   -- for this text's walks alone
set_option linter.unusedVariables false
set_option linter.unusedSimpArgs false

/-! ### bulletinref13_Why: function 81 -/
mutual
def bulletinref13_Why.j0 : Nat → Int → Bool → ByteArray → ByteArray → Option (Int)
 | 0, _, _, _, _ => none
 | k + 1, x4, x18, x384000, x384001 => if x18 = true then (some 130) else (bulletinref13_Why.l0 k x4 0 x384000 x384001)
def bulletinref13_Why.l0 : Nat → Int → Int → ByteArray → ByteArray → Option (Int)
 | 0, _, _, _, _ => none
 | k + 1, x4, x5, x384000, x384001 => if x5 < (x384000.size : Int) then (if 0 ≤ x5 then (if (bt x384000 x5) < 32 then (some 130) else (if (bt x384000 x5) > 126 then (some 130) else (bulletinref13_Why.l0 k x4 (wrap64 (x5 + 1)) x384000 x384001))) else (none)) else (if x4 = 0 then (if (x384000.size : Int) > 64 then (some 2) else ((bulletinref13_Text.f k x384000 x384001).bind fun t386 => (if (t386.size : Int) > 254 then (some 2) else (some 0)))) else (some 2))
end
def bulletinref13_Why.f (k : Nat) (a0_0 : ByteArray) (a0_1 : ByteArray) : Option (Int) := (bulletinref13_Domain.f k a0_1).bind fun bt384 => (if bt384.2 = 130 then (bulletinref13_Why.j0 k bt384.2 true a0_0 a0_1) else (bulletinref13_Why.j0 k bt384.2 (a0_0.toList == ([] : List UInt8)) a0_0 a0_1))
end Go.Proofs.YtlomcmdbbnbciaaDoor.Fn
-- written by xprint.py of this session over the kit's printer; not trusted: Lean checks it
namespace Go.Proofs.YtlomcmdbbnbciaaDoor.Fn
open Go.RowKit Go.Proofs.YtlomcmdbbnbciaaDoorW.PrintWords Go.Proofs.YtlomcmdbbnbciaaDoorW.PrintLast Go.Proofs.YtlomcmdbbnbciaaDoorW.PrintMore
attribute [local go_sem] max2_int min2_int max_two min_two max_three min_three max_four min_four   -- for this text's walks alone
set_option linter.unusedVariables false
set_option linter.unusedSimpArgs false

/-! ### bulletinref13_Right: function 32 -/
end Go.Proofs.YtlomcmdbbnbciaaDoor.Fn
-- written by xprint.py of this session over the kit's printer; not trusted: Lean checks it
namespace Go.Proofs.YtlomcmdbbnbciaaDoor.Fn
open Go.RowKit Go.Proofs.YtlomcmdbbnbciaaDoorW.PrintWords Go.Proofs.YtlomcmdbbnbciaaDoorW.PrintLast Go.Proofs.YtlomcmdbbnbciaaDoorW.PrintMore
attribute [local go_sem] max2_int min2_int max_two min_two max_three min_three max_four min_four   -- for this text's walks alone
set_option linter.unusedVariables false
set_option linter.unusedSimpArgs false

/-! ### bulletinref13_Key: function 31 -/
end Go.Proofs.YtlomcmdbbnbciaaDoor.Fn
set_option linter.unusedVariables false
namespace Go.Proofs.YtlomcmdbbnbciaaDoor.Pl
open Go.RowKit Go.Proofs.YtlomcmdbbnbciaaDoorW.PrintWords Go.Proofs.YtlomcmdbbnbciaaDoor.Fn

/-! Layer 13, the document's, over lists of bytes: it answers as the program does. -/
/-! IsAtom -/
/-! Quote -/
theorem text_34 : text 34 = true := by decide +kernel
end Go.Proofs.YtlomcmdbbnbciaaDoor.Pl
-- written by xprint.py of this session over the kit's printer; not trusted: Lean checks it
namespace Go.Proofs.YtlomcmdbbnbciaaDoor.Fn
open Go.RowKit Go.Proofs.YtlomcmdbbnbciaaDoorW.PrintWords Go.Proofs.YtlomcmdbbnbciaaDoorW.PrintLast Go.Proofs.YtlomcmdbbnbciaaDoorW.PrintMore
attribute [local go_sem] max2_int min2_int max_two min_two max_three min_three max_four min_four   -- for this text's walks alone
set_option linter.unusedVariables false
set_option linter.unusedSimpArgs false

/-! ### bulletinref12_Scan: function 87 -/
mutual
def bulletinref12_Scan.l0 : Nat → ByteArray → List (S148) → ByteArray → Int → Int → Bool → Int → Option ((List (S148)) × Int)
 | 0, _, _, _, _, _, _, _ => none
 | k + 1, x0, x4, x5, x6, x7, x8, x9 => if x9 < (x0.size : Int) then (if 0 ≤ x9 then (if x8 = true then ((bulletinref12_Text.f (bt x0 x9)).bind fun t415 => (if t415 = true then (if x6 = 2 then (if x9 ≤ (wrap64 (x9 + 1)) then (if (wrap64 (x9 + 1)) ≤ (x0.size : Int) then (if x5.size + (x0.extract (x9 : Int).toNat ((wrap64 (x9 + 1)) : Int).toNat).size ≤ 9223372036854775807 then (bulletinref12_Scan.l0 k x0 x4 (x5 ++ (x0.extract (x9 : Int).toNat ((wrap64 (x9 + 1)) : Int).toNat)) x6 x7 false (wrap64 (x9 + 1))) else (none)) else (none)) else (none)) else (bulletinref12_Scan.l0 k x0 x4 x5 x6 x7 false (wrap64 (x9 + 1)))) else (some (([] : List (S148)), 3)))) else (if x6 = 1 then ((bulletinref12_atomic.f k (bt x0 x9)).bind fun t416 => (bulletinref12_Scan.j1 k x0 x4 x5 x6 x7 x8 x9 (bt x0 x9) (!t416))) else (bulletinref12_Scan.j1 k x0 x4 x5 x6 x7 x8 x9 (bt x0 x9) false))) else (none)) else (if x6 ≥ 2 then (some (([] : List (S148)), 9)) else (if x6 = 1 then (if x4.length < 5864062014805 then (some ((x4 ++ [(⟨1, x5⟩ : S148)]), 0)) else (none)) else (some (x4, 0))))
def bulletinref12_Scan.j1 : Nat → ByteArray → List (S148) → ByteArray → Int → Int → Bool → Int → Int → Bool → Option ((List (S148)) × Int)
 | 0, _, _, _, _, _, _, _, _, _ => none
 | k + 1, x0, x4, x5, x6, x7, x8, x9, x10, x39 => if x39 = true then (if x4.length < 5864062014805 then (bulletinref12_Scan.j2 k x0 (x4 ++ [(⟨1, x5⟩ : S148)]) (⟨#[]⟩ : ByteArray) 0 x7 x8 x9 x10) else (none)) else (bulletinref12_Scan.j2 k x0 x4 x5 x6 x7 x8 x9 x10)
def bulletinref12_Scan.j2 : Nat → ByteArray → List (S148) → ByteArray → Int → Int → Bool → Int → Int → Option ((List (S148)) × Int)
 | 0, _, _, _, _, _, _, _, _ => none
 | k + 1, x0, x4, x5, x6, x7, x8, x9, x10 => if x10 = 13 then (if (wrap64 (x9 + 2)) < (x0.size : Int) then (if 0 ≤ (wrap64 (x9 + 1)) then (if (wrap64 (x9 + 1)) < (x0.size : Int) then (if (bt x0 (wrap64 (x9 + 1))) = 10 then (if 0 ≤ (wrap64 (x9 + 2)) then (if (bt x0 (wrap64 (x9 + 2))) = 32 then (bulletinref12_Scan.j3 k x0 x4 x5 x6 x7 x8 x9 x10 true) else (bulletinref12_Scan.j3 k x0 x4 x5 x6 x7 x8 x9 x10 ((bt x0 (wrap64 (x9 + 2))) == 9))) else (none)) else (bulletinref12_Scan.j3 k x0 x4 x5 x6 x7 x8 x9 x10 false)) else (none)) else (none)) else (bulletinref12_Scan.j3 k x0 x4 x5 x6 x7 x8 x9 x10 false)) else (bulletinref12_Scan.j3 k x0 x4 x5 x6 x7 x8 x9 x10 false)
def bulletinref12_Scan.j3 : Nat → ByteArray → List (S148) → ByteArray → Int → Int → Bool → Int → Int → Bool → Option ((List (S148)) × Int)
 | 0, _, _, _, _, _, _, _, _, _ => none
 | k + 1, x0, x4, x5, x6, x7, x8, x9, x10, x74 => if x74 = true then (bulletinref12_Scan.l0 k x0 x4 x5 x6 x7 x8 (wrap64 ((wrap64 (x9 + 1)) + 1))) else (if x6 = 2 then (bulletinref12_Scan.j4 k x0 x4 x5 x6 x7 x8 x9 x10 true) else (bulletinref12_Scan.j4 k x0 x4 x5 x6 x7 x8 x9 x10 (x6 == 3)))
def bulletinref12_Scan.j4 : Nat → ByteArray → List (S148) → ByteArray → Int → Int → Bool → Int → Int → Bool → Option ((List (S148)) × Int)
 | 0, _, _, _, _, _, _, _, _, _ => none
 | k + 1, x0, x4, x5, x6, x7, x8, x9, x10, x82 => if x82 = true then (if x10 = 92 then (bulletinref12_Scan.l0 k x0 x4 x5 x6 x7 true (wrap64 (x9 + 1))) else ((bulletinref12_Text.f x10).bind fun t420 => (if t420 = true then (bulletinref12_Scan.j5 k x0 x4 x5 x6 x7 x8 x9 x10) else (some (([] : List (S148)), 3))))) else (bulletinref12_Scan.j5 k x0 x4 x5 x6 x7 x8 x9 x10)
def bulletinref12_Scan.j5 : Nat → ByteArray → List (S148) → ByteArray → Int → Int → Bool → Int → Int → Option ((List (S148)) × Int)
 | 0, _, _, _, _, _, _, _, _ => none
 | k + 1, x0, x4, x5, x6, x7, x8, x9, x10 => if x6 = 2 then (if x10 = 34 then (if x4.length < 5864062014805 then (bulletinref12_Scan.l0 k x0 (x4 ++ [(⟨2, x5⟩ : S148)]) (⟨#[]⟩ : ByteArray) 0 x7 x8 (wrap64 (x9 + 1))) else (none)) else (if 0 ≤ x9 then (if x9 ≤ (wrap64 (x9 + 1)) then (if (wrap64 (x9 + 1)) ≤ (x0.size : Int) then (if x5.size + (x0.extract (x9 : Int).toNat ((wrap64 (x9 + 1)) : Int).toNat).size ≤ 9223372036854775807 then (bulletinref12_Scan.l0 k x0 x4 (x5 ++ (x0.extract (x9 : Int).toNat ((wrap64 (x9 + 1)) : Int).toNat)) x6 x7 x8 (wrap64 (x9 + 1))) else (none)) else (none)) else (none)) else (none))) else (if x6 = 3 then (if x10 = 40 then (bulletinref12_Scan.j6 k x0 x4 x5 x6 (wrap64 (x7 + 1)) x8 x9 x10) else (bulletinref12_Scan.j6 k x0 x4 x5 x6 x7 x8 x9 x10)) else ((bulletinref12_atomic.f k x10).bind fun t424 => (if t424 = true then (if 0 ≤ x9 then (if x9 ≤ (wrap64 (x9 + 1)) then (if (wrap64 (x9 + 1)) ≤ (x0.size : Int) then (if x5.size + (x0.extract (x9 : Int).toNat ((wrap64 (x9 + 1)) : Int).toNat).size ≤ 9223372036854775807 then (bulletinref12_Scan.l0 k x0 x4 (x5 ++ (x0.extract (x9 : Int).toNat ((wrap64 (x9 + 1)) : Int).toNat)) 1 x7 x8 (wrap64 (x9 + 1))) else (none)) else (none)) else (none)) else (none)) else (if x10 = 34 then (bulletinref12_Scan.l0 k x0 x4 x5 2 x7 x8 (wrap64 (x9 + 1))) else (if x10 = 40 then (bulletinref12_Scan.l0 k x0 x4 x5 3 1 x8 (wrap64 (x9 + 1))) else ((bulletinref12_among.f k x10 (⟨#[60, 62, 58, 59, 64, 44, 46]⟩ : ByteArray)).bind fun t425 => (if t425 = true then (if 0 ≤ x9 then (if x9 ≤ (wrap64 (x9 + 1)) then (if (wrap64 (x9 + 1)) ≤ (x0.size : Int) then (if x4.length < 5864062014805 then (bulletinref12_Scan.l0 k x0 (x4 ++ [(⟨3, x0.extract (x9 : Int).toNat ((wrap64 (x9 + 1)) : Int).toNat⟩ : S148)]) x5 x6 x7 x8 (wrap64 (x9 + 1))) else (none)) else (none)) else (none)) else (none)) else (if x10 = 32 then (bulletinref12_Scan.l0 k x0 x4 x5 x6 x7 x8 (wrap64 (x9 + 1))) else (if x10 = 9 then (bulletinref12_Scan.l0 k x0 x4 x5 x6 x7 x8 (wrap64 (x9 + 1))) else (some (([] : List (S148)), 3)))))))))))
def bulletinref12_Scan.j6 : Nat → ByteArray → List (S148) → ByteArray → Int → Int → Bool → Int → Int → Option ((List (S148)) × Int)
 | 0, _, _, _, _, _, _, _, _ => none
 | k + 1, x0, x4, x5, x6, x7, x8, x9, x10 => if x10 = 41 then (bulletinref12_Scan.j7 k x0 x4 x5 x6 (wrap64 (x7 - 1)) x8 x9) else (bulletinref12_Scan.j7 k x0 x4 x5 x6 x7 x8 x9)
def bulletinref12_Scan.j7 : Nat → ByteArray → List (S148) → ByteArray → Int → Int → Bool → Int → Option ((List (S148)) × Int)
 | 0, _, _, _, _, _, _, _ => none
 | k + 1, x0, x4, x5, x6, x7, x8, x9 => if x7 > 16 then (some (([] : List (S148)), 1)) else (if x7 = 0 then (bulletinref12_Scan.l0 k x0 x4 x5 0 x7 x8 (wrap64 (x9 + 1))) else (bulletinref12_Scan.l0 k x0 x4 x5 x6 x7 x8 (wrap64 (x9 + 1))))
end
end Go.Proofs.YtlomcmdbbnbciaaDoor.Fn
set_option linter.unusedVariables false
namespace Go.Proofs.YtlomcmdbbnbciaaDoor.Pl
open Go.RowKit Go.Proofs.YtlomcmdbbnbciaaDoorW.PrintWords Go.Proofs.YtlomcmdbbnbciaaDoor.Fn

/-! Layer 12: tokens, by one machine over lists of bytes; the document's Scan is this machine. -/
inductive Sc where
  | out
  | atom (w : Bytes)
  | quot (w : Bytes) (b : Bool)
  | comm (d : Nat) (b : Bool)
abbrev Tok := Int × Bytes
def whiteB (c : UInt8) : Bool := c == 32 || c == 9
def foldAt : Bytes → Bool
  | a :: b :: c :: _ => a == 13 && b == 10 && whiteB c
  | _ => false
def signB (c : UInt8) : Bool := (⟨#[60, 62, 58, 59, 64, 44, 46]⟩ : ByteArray).data.toList.contains c
def stepOut (acc : List Tok) (c : UInt8) (l : Bytes) : (List Tok × Sc × Bytes) ⊕ Int :=
  if foldAt (c :: l) = true then .inl (acc, .out, l.tail)
  else if atomic c = true then .inl (acc, .atom [c], l)
  else if c = 34 then .inl (acc, .quot [] false, l)
  else if c = 40 then .inl (acc, .comm 1 false, l)
  else if signB c = true then .inl (acc ++ [(3, [c])], .out, l)
  else if whiteB c = true then .inl (acc, .out, l)
  else .inr 3
def commAfter (acc : List Tok) (d : Nat) (l : Bytes) : (List Tok × Sc × Bytes) ⊕ Int :=
  if 16 < d then .inr 1 else if d = 0 then .inl (acc, .out, l) else .inl (acc, .comm d false, l)
def step (acc : List Tok) (st : Sc) (c : UInt8) (l : Bytes) : (List Tok × Sc × Bytes) ⊕ Int :=
  match st with
  | .out => stepOut acc c l
  | .atom w => if atomic c = true then .inl (acc, .atom (w ++ [c]), l) else stepOut (acc ++ [(1, w)]) c l
  | .quot w true => if text c = true then .inl (acc, .quot (w ++ [c]) false, l) else .inr 3
  | .comm d true => if text c = true then .inl (acc, .comm d false, l) else .inr 3
  | .quot w false =>
    if foldAt (c :: l) = true then .inl (acc, .quot w false, l.tail)
    else if c = 92 then .inl (acc, .quot w true, l)
    else if text c = true then (if c = 34 then .inl (acc ++ [(2, w)], .out, l) else .inl (acc, .quot (w ++ [c]) false, l))
    else .inr 3
  | .comm d false =>
    if foldAt (c :: l) = true then .inl (acc, .comm d false, l.tail)
    else if c = 92 then .inl (acc, .comm d true, l)
    else if text c = true then commAfter acc (if c = 40 then d + 1 else if c = 41 then d - 1 else d) l
    else .inr 3
def endOf (acc : List Tok) : Sc → List Tok × Int
  | .out => (acc, 0)
  | .atom w => (acc ++ [(1, w)], 0)
  | _ => ([], 9)
def scan : Nat → List Tok → Sc → Bytes → List Tok × Int
  | _, acc, st, [] => endOf acc st
  | 0, _, _, _ :: _ => ([], 7)
  | k + 1, acc, st, c :: l => match step acc st c l with
    | .inl (acc', st', l') => scan k acc' st' l'
    | .inr e => ([], e)
theorem stepOut_le {acc : List Tok} {c : UInt8} {l : Bytes} {a : List Tok} {s : Sc} {r : Bytes} (h : stepOut acc c l = .inl (a, s, r)) : r.length ≤ l.length := by
  unfold stepOut at h
  repeat' split at h
  all_goals (first | (cases h; done) | (simp only [Sum.inl.injEq, Prod.mk.injEq] at h; obtain ⟨_, _, rfl⟩ := h; simp))
theorem step_le {acc : List Tok} {st : Sc} {c : UInt8} {l : Bytes} {a : List Tok} {s : Sc} {r : Bytes} (h : step acc st c l = .inl (a, s, r)) : r.length ≤ l.length := by
  unfold step commAfter at h
  repeat' split at h
  all_goals (first | exact stepOut_le h | (cases h; done) | (simp only [Sum.inl.injEq, Prod.mk.injEq] at h; obtain ⟨_, _, rfl⟩ := h; simp))
theorem scan_more : ∀ (k : Nat) (acc : List Tok) (st : Sc) (l : Bytes), l.length ≤ k → scan k acc st l = scan (k + 1) acc st l
  | k, acc, st, [], _ => by cases k <;> rfl
  | 0, acc, st, c :: l, h => by simp at h
  | k + 1, acc, st, c :: l, h => by
    rw [scan, scan]
    cases hs : step acc st c l with
    | inr e => rfl
    | inl x =>
      obtain ⟨a, s, r⟩ := x
      have := step_le hs
      simp only [List.length_cons] at h
      exact scan_more k a s r (by omega)
def scanL (acc : List Tok) (st : Sc) (l : Bytes) : List Tok × Int := scan l.length acc st l
theorem scan_enough (k : Nat) (acc : List Tok) (st : Sc) (l : Bytes) (h : l.length ≤ k) : scan k acc st l = scanL acc st l := by
  unfold scanL
  obtain ⟨d, rfl⟩ : ∃ d, k = l.length + d := ⟨k - l.length, by omega⟩
  clear h
  induction d with
  | zero => rfl
  | succ d ih => rw [← Nat.add_assoc, ← scan_more _ _ _ _ (by omega)]; exact ih
theorem scanL_nil (acc : List Tok) (st : Sc) : scanL acc st [] = endOf acc st := rfl
theorem scanL_cons (acc : List Tok) (st : Sc) (c : UInt8) (l : Bytes) : scanL acc st (c :: l) = match step acc st c l with
    | .inl (acc', st', l') => scanL acc' st' l'
    | .inr e => ([], e) := by
  rw [scanL, List.length_cons, scan]
  cases hs : step acc st c l with
  | inr e => rfl
  | inl x =>
    obtain ⟨a, s, r⟩ := x
    exact scan_enough _ _ _ _ (step_le hs)

/-! The document's Scan -/
def tok148 (t : Tok) : S148 := ⟨t.1, str t.2⟩
def wOf : Sc → Bytes
  | .atom w => w
  | .quot w _ => w
  | _ => []
def whereOf : Sc → Int
  | .out => 0
  | .atom _ => 1
  | .quot _ _ => 2
  | .comm _ _ => 3
def behindOf : Sc → Bool
  | .quot _ b => b
  | .comm _ b => b
  | _ => false
def deepOk (d : Int) : Sc → Prop
  | .comm n _ => d = n ∧ 1 ≤ n ∧ n ≤ 16
  | _ => 0 ≤ d ∧ d ≤ 16
theorem byte_ofNat (c : UInt8) (n : Nat) (h : n < 256) : ((c.toNat : Int) = ((n : Nat) : Int)) ↔ c = UInt8.ofNat n := by rw [byte_eq c n h]
def res148 (acc : List Tok) (st : Sc) (r : Bytes) : List S148 × Int := ((scanL acc st r).1.map tok148, (scanL acc st r).2)
def Behind (s : ByteArray) (k m : Nat) : Prop := ∀ (acc : List Tok) (st : Sc) (d : Int) (r : Bytes) (j : Nat), r.length ≤ m → (bs s).drop j = r → j ≤ (bs s).length → deepOk d st → acc.length ≤ 2 * j → (wOf st).length ≤ j →
  bulletinref12_Scan.l0 k s (acc.map tok148) (str (wOf st)) (whereOf st) d (behindOf st) (j : Int) = some (res148 acc st r)
theorem tail_drop {s : ByteArray} {i : Nat} {c : UInt8} {l : Bytes} (hd : (bs s).drop i = c :: l) (hf : foldAt (c :: l) = true) : (bs s).drop (i + 2) = l.tail ∧ i + 2 ≤ (bs s).length ∧ l.tail.length ≤ l.length := by
  obtain ⟨h1, h2, h3, h4⟩ := drop_cons hd
  cases l with
  | nil => cases hf
  | cons b l =>
    obtain ⟨g1, g2, g3, g4⟩ := drop_cons h3
    exact ⟨g3, by omega, by simp⟩
end Go.Proofs.YtlomcmdbbnbciaaDoor.Pl
set_option linter.unusedVariables false
namespace Go.Proofs.YtlomcmdbbnbciaaDoor.Pl
open Go.RowKit Go.Proofs.YtlomcmdbbnbciaaDoorW.PrintWords Go.Proofs.YtlomcmdbbnbciaaDoor.Fn

/-! Layer 12, the program's: its Scan is the same machine. -/
set_option maxRecDepth 100000 in
theorem lexsign_is (c : UInt8) : lex_sign.f (c.toNat : Int) = some (signB c) := forall_byte (p := fun c => lex_sign.f (c.toNat : Int) = some (signB c)) (by decide +kernel) c
set_option maxRecDepth 100000 in
theorem lexwhite_is (c : UInt8) : lex_white.f (c.toNat : Int) = some (whiteB c) := forall_byte (p := fun c => lex_white.f (c.toNat : Int) = some (whiteB c)) (by decide +kernel) c
set_option maxRecDepth 100000 in
theorem atomic_apart (c : UInt8) : atomic c = true → c ≠ 13 ∧ c ≠ 40 ∧ c ≠ 34 ∧ c ≠ 32 ∧ c ≠ 9 ∧ signB c = false := forall_byte (p := fun c => atomic c = true → c ≠ 13 ∧ c ≠ 40 ∧ c ≠ 34 ∧ c ≠ 32 ∧ c ≠ 9 ∧ signB c = false) (by decide +kernel) c
set_option maxRecDepth 100000 in
theorem white_apart (c : UInt8) : whiteB c = true → c ≠ 13 ∧ c ≠ 40 ∧ c ≠ 34 ∧ atomic c = false ∧ signB c = false := forall_byte (p := fun c => whiteB c = true → c ≠ 13 ∧ c ≠ 40 ∧ c ≠ 34 ∧ atomic c = false ∧ signB c = false) (by decide +kernel) c
theorem fold_not {c : UInt8} (h : c ≠ 13) (l : Bytes) : foldAt (c :: l) = false := by
  cases l with
  | nil => rfl
  | cons b l =>
    cases l with
    | nil => rfl
    | cons e l => simp only [foldAt]; simp [h]
theorem lexfold_is (s : ByteArray) (hs : s.size ≤ 1000000) : lex_fold.f s = some (foldAt (bs s)) := by
  have hlen := bs_length s
  unfold lex_fold.f
  cases hb : bs s with
  | nil =>
    rw [hb] at hlen
    simp only [List.length_nil] at hlen
    rw [if_neg (by omega)]; rfl
  | cons a l =>
    have h0 : (bs s).drop 0 = a :: l := by simpa using hb
    cases l with
    | nil =>
      rw [hb] at hlen
      simp only [List.length_cons, List.length_nil] at hlen
      rw [if_neg (by omega)]; rfl
    | cons b l =>
      have h1 : (bs s).drop 1 = b :: l := (drop_cons h0).2.2.1
      cases l with
      | nil =>
        rw [hb] at hlen
        simp only [List.length_cons, List.length_nil] at hlen
        rw [if_neg (by omega)]; rfl
      | cons c l =>
        have h2 : (bs s).drop 2 = c :: l := (drop_cons h1).2.2.1
        rw [hb] at hlen
        simp only [List.length_cons] at hlen
        have e0 : bt s 0 = (a.toNat : Int) := bt_drop h0
        have e1 : bt s 1 = (b.toNat : Int) := bt_drop h1
        have e2 : bt s 2 = (c.toNat : Int) := bt_drop h2
        rw [if_pos (by omega), if_pos (by omega), e0]
        by_cases a13 : a = 13
        · rw [if_pos (by rw [a13]; rfl), if_pos (by omega), e1]
          by_cases b10 : b = 10
          · rw [if_pos (by rw [b10]; rfl), if_pos (by omega), e2, lexwhite_is, a13, b10]
            simp [foldAt]
          · rw [if_neg (c := (b.toNat : Int) = 10) (fun h => b10 ((byte_ofNat b 10 (by decide)).1 h))]
            simp [foldAt, b10]
        · rw [if_neg (c := (a.toNat : Int) = 13) (fun h => a13 ((byte_ofNat a 13 (by decide)).1 h))]
          simp [foldAt, a13]
def escL : Bytes → Int
  | [] => 9
  | c :: _ => if text c = true then 0 else 3
theorem lexescaped_is (s : ByteArray) : lex_escaped.f s = some (escL (bs s)) := by
  unfold lex_escaped.f
  rw [toList_bs]
  cases hb : bs s with
  | nil => rw [if_pos rfl]; rfl
  | cons c l =>
    have hlen := bs_length s
    rw [hb] at hlen
    simp only [List.length_cons] at hlen
    have e0 : bt s 0 = (c.toNat : Int) := bt_drop (s := s) (i := 0) (by simpa using hb)
    rw [if_neg (by simp), if_pos (by omega), e0, text_is, Option.bind_some]
    show (if text c = true then some (0 : Int) else some 3) = some (if text c = true then 0 else 3)
    cases text c <;> rfl
theorem bs_rest (s : ByteArray) (i : Nat) : bs (s.extract i s.size) = (bs s).drop i := by
  rw [bs_extract, List.take_of_length_le (by rw [bs_length]; exact Nat.le_refl _)]
theorem str_rest (s : ByteArray) (i : Nat) : s.extract i s.size = str ((bs s).drop i) := by
  apply bs_inj
  rw [bs_rest, bs_str]
def QuotSays (s : ByteArray) (k i : Nat) (w l : Bytes) : Prop :=
  (∃ w' r, lex_quoted.l0 k s (numsOf w) (i : Int) = some (2, str w', str r, 0) ∧ r.length ≤ l.length ∧ ∀ acc, scanL acc (.quot w false) l = scanL (acc ++ [(2, w')]) .out r) ∨
  (∃ e, e ≠ 0 ∧ lex_quoted.l0 k s (numsOf w) (i : Int) = some (0, str [], str [], e) ∧ ∀ acc, scanL acc (.quot w false) l = ([], e))
theorem QuotSays.le {s : ByteArray} {k k' i i' : Nat} {w w' l l' : Bytes} (h : QuotSays s k i w l) (hk : lex_quoted.l0 k' s (numsOf w') (i' : Int) = lex_quoted.l0 k s (numsOf w) (i : Int)) (hl : l.length ≤ l'.length) (hs : ∀ acc, scanL acc (.quot w' false) l' = scanL acc (.quot w false) l) : QuotSays s k' i' w' l' := by
  rcases h with ⟨a, r, h1, h2, h3⟩ | ⟨e, h1, h2, h3⟩
  · exact .inl ⟨a, r, hk.trans h1, by omega, fun acc => (hs acc).trans (h3 acc)⟩
  · exact .inr ⟨e, h1, hk.trans h2, fun acc => (hs acc).trans (h3 acc)⟩
theorem lexquoted_l0 (s : ByteArray) (hs : s.size ≤ 1000000) : ∀ (n k i : Nat) (w l : Bytes), l.length ≤ n → n + 1 ≤ k → (bs s).drop i = l → i ≤ (bs s).length → w.length ≤ i → QuotSays s k i w l
  | n, k, i, w, [], hn, hk, hd, hi, hw => by
    obtain ⟨k, rfl⟩ : ∃ j, k = j + 1 := ⟨k - 1, by omega⟩
    have := drop_nil hd
    rw [bs_length] at this hi
    refine .inr ⟨9, by decide, ?_, fun acc => rfl⟩
    rw [lex_quoted.l0, if_neg (by omega)]
    rfl
  | 0, k, i, w, c :: l, hn, hk, hd, hi, hw => by simp at hn
  | n + 1, k, i, w, c :: l, hn, hk, hd, hi, hw => by
    obtain ⟨k, rfl⟩ : ∃ j, k = j + 1 := ⟨k - 1, by omega⟩
    obtain ⟨h1, h2, h3, h4⟩ := drop_cons hd
    have h5 : i < s.size := by rw [bs_length] at h1; exact h1
    simp only [List.length_cons] at hn
    have e1 : wrap64 ((i : Int) + 1) = ((i + 1 : Nat) : Int) := wrap_succ i (by omega)
    have e2 : wrap64 (wrap64 ((i : Int) + 1) + 1) = ((i + 2 : Nat) : Int) := by rw [e1, wrap_succ (i + 1) (by omega)]
    have hl0 : ∀ X : Option (Int × ByteArray × ByteArray × Int), X = lex_quoted.l0 (k + 1) s (numsOf w) (i : Int) → lex_quoted.l0 (k + 1) s (numsOf w) (i : Int) = X := fun X h => h.symm
    have hstart : lex_quoted.l0 (k + 1) s (numsOf w) (i : Int) = (if foldAt (c :: l) = true then (lex_quoted.l0 k s (numsOf w) ((i + 2 : Nat) : Int)) else (if (c.toNat : Int) = 92 then (if escL l = 0 then (lex_quoted.l0 k s (numsOf w ++ [bt s ((i + 1 : Nat) : Int)]) ((i + 2 : Nat) : Int)) else some (0, (⟨#[]⟩ : ByteArray), (⟨#[]⟩ : ByteArray), escL l)) else (if (c.toNat : Int) = 34 then some (2, strOfNums (numsOf w), str l, 0) else (if text c = true then lex_quoted.l0 k s (numsOf w ++ [(c.toNat : Int)]) ((i + 1 : Nat) : Int) else some (0, (⟨#[]⟩ : ByteArray), (⟨#[]⟩ : ByteArray), 3))))) := by
      rw [lex_quoted.l0, if_pos (by omega), if_pos (by omega), if_pos (by omega)]
      simp only [Int.toNat_natCast]
      rw [lexfold_is _ (by simp only [ByteArray.size_extract]; omega), bs_rest, hd, Option.bind_some]
      cases hf : foldAt (c :: l) with
      | true => rw [if_pos rfl, if_pos rfl, e2]
      | false =>
        rw [if_neg (c := false = true) (by decide), if_neg (c := false = true) (by decide), bt_drop hd]
        by_cases c92 : (c.toNat : Int) = 92
        · rw [if_pos c92, if_pos c92, e1, if_pos (by omega), if_pos (by omega)]
          simp only [Int.toNat_natCast]
          rw [lexescaped_is, bs_rest, h3, Option.bind_some]
          by_cases he : escL l = 0
          · rw [if_pos he, if_pos he]
            have hne : i + 1 < s.size := by
              rcases Nat.lt_or_ge (i + 1) s.size with q | q
              · exact q
              · have : l = [] := by rw [← h3]; exact List.drop_of_length_le (by rw [bs_length]; exact q)
                rw [this] at he; cases he
            rw [if_pos (by omega), if_pos (by rw [numsOf_length]; omega), wrap_succ (i + 1) (by omega)]
          · rw [if_neg he, if_neg he]
        · rw [if_neg c92, if_neg c92]
          by_cases c34 : (c.toNat : Int) = 34
          · rw [if_pos c34, if_pos c34, e1, if_pos (by omega), if_pos (by omega)]
            simp only [Int.toNat_natCast]
            rw [str_rest, h3]
          · rw [if_neg c34, if_neg c34, text_is, Option.bind_some]
            cases ht : text c with
            | true => rw [if_pos rfl, if_pos rfl, if_pos (by rw [numsOf_length]; omega), e1]
            | false => rw [if_neg (c := false = true) (by decide), if_neg (c := false = true) (by decide)]
    cases hf : foldAt (c :: l) with
    | true =>
      obtain ⟨t1, t2, t3⟩ := tail_drop hd hf
      rw [hf, if_pos rfl] at hstart
      refine (lexquoted_l0 s hs n k (i + 2) w l.tail (by omega) (by omega) t1 t2 (by omega)).le hstart (by simp; omega) (fun acc => ?_)
      rw [scanL_cons]
      unfold step
      simp only []
      rw [hf, if_pos rfl]
    | false =>
      rw [hf, if_neg (by decide)] at hstart
      by_cases c92 : c = 92
      · rw [if_pos (by rw [c92]; rfl)] at hstart
        have hst : ∀ acc, scanL acc (.quot w false) (c :: l) = scanL acc (.quot w true) l := by
          intro acc
          rw [scanL_cons]
          unfold step
          simp only []
          rw [hf, if_neg (by decide), if_pos c92]
        cases hl : l with
        | nil =>
          rw [hl] at hstart
          refine .inr ⟨9, by decide, hstart.trans rfl, fun acc => ?_⟩
          rw [← hl, hst, hl]
          rfl
        | cons x l2 =>
          have hdx : (bs s).drop (i + 1) = x :: l2 := by rw [h3, hl]
          obtain ⟨g1, g2, g3, g4⟩ := drop_cons hdx
          have hsx : ∀ acc, scanL acc (.quot w false) (c :: x :: l2) = if text x = true then scanL acc (.quot (w ++ [x]) false) l2 else ([], 3) := by
            intro acc
            rw [← hl, hst, hl, scanL_cons]
            unfold step
            cases text x <;> rfl
          rw [hl] at hstart hn
          simp only [List.length_cons] at hn
          cases ht : text x with
          | true =>
            rw [show escL (x :: l2) = 0 by show (if text x = true then (0 : Int) else 3) = 0; rw [ht]; rfl, if_pos rfl, bt_drop hdx, show numsOf w ++ [(x.toNat : Int)] = numsOf (w ++ [x]) by simp [numsOf]] at hstart
            refine (lexquoted_l0 s hs n k (i + 2) (w ++ [x]) l2 (by omega) (by omega) g3 (by omega) (by simp; omega)).le hstart (by simp; omega) (fun acc => ?_)
            rw [hsx, ht, if_pos rfl]
          | false =>
            rw [show escL (x :: l2) = 3 by show (if text x = true then (0 : Int) else 3) = 3; rw [ht]; rfl, if_neg (by decide)] at hstart
            exact .inr ⟨3, by decide, hstart, fun acc => by rw [hsx, ht]; rfl⟩
      · rw [if_neg (c := (c.toNat : Int) = 92) (fun h => c92 ((byte_ofNat c 92 (by decide)).1 h))] at hstart
        by_cases c34 : c = 34
        · rw [if_pos (by rw [c34]; rfl), strOfNums_of] at hstart
          refine .inl ⟨w, l, hstart, by simp, fun acc => ?_⟩
          rw [scanL_cons]
          unfold step
          simp only []
          rw [hf, if_neg (by decide), if_neg c92, if_pos (by rw [c34]; exact text_34), if_pos c34]
        · rw [if_neg (c := (c.toNat : Int) = 34) (fun h => c34 ((byte_ofNat c 34 (by decide)).1 h))] at hstart
          cases ht : text c with
          | true =>
            rw [ht, if_pos rfl, show numsOf w ++ [(c.toNat : Int)] = numsOf (w ++ [c]) by simp [numsOf]] at hstart
            refine (lexquoted_l0 s hs n k (i + 1) (w ++ [c]) l (by omega) (by omega) h3 (by omega) (by simp; omega)).le hstart (by simp) (fun acc => ?_)
            rw [scanL_cons]
            unfold step
            simp only []
            rw [hf, ht, if_neg (by decide), if_neg c92, if_pos rfl, if_neg c34]
          | false =>
            rw [ht, if_neg (by decide)] at hstart
            refine .inr ⟨3, by decide, hstart, fun acc => ?_⟩
            rw [scanL_cons]
            unfold step
            simp only []
            rw [hf, ht, if_neg (by decide), if_neg c92, if_neg (by decide)]

def CommSays (s : ByteArray) (k i m : Nat) (l : Bytes) : Prop :=
  (∃ r, lex_comment.l0 k s (m : Int) (i : Int) = some (str r, 0) ∧ r.length ≤ l.length ∧ ∀ acc, scanL acc (.comm m false) l = scanL acc .out r) ∨
  (∃ e, e ≠ 0 ∧ lex_comment.l0 k s (m : Int) (i : Int) = some (str [], e) ∧ ∀ acc, scanL acc (.comm m false) l = ([], e))
theorem CommSays.le {s : ByteArray} {k k' i i' m m' : Nat} {l l' : Bytes} (h : CommSays s k i m l) (hk : lex_comment.l0 k' s (m' : Int) (i' : Int) = lex_comment.l0 k s (m : Int) (i : Int)) (hl : l.length ≤ l'.length) (hs : ∀ acc, scanL acc (.comm m' false) l' = scanL acc (.comm m false) l) : CommSays s k' i' m' l' := by
  rcases h with ⟨r, h1, h2, h3⟩ | ⟨e, h1, h2, h3⟩
  · exact .inl ⟨r, hk.trans h1, by omega, fun acc => (hs acc).trans (h3 acc)⟩
  · exact .inr ⟨e, h1, hk.trans h2, fun acc => (hs acc).trans (h3 acc)⟩
theorem text_40 : text 40 = true := by decide +kernel
theorem text_41 : text 41 = true := by decide +kernel
theorem lexcomment_l0 (s : ByteArray) (hs : s.size ≤ 1000000) : ∀ (n k i m : Nat) (l : Bytes), l.length ≤ n → 3 * n + 3 ≤ k → (bs s).drop i = l → i ≤ (bs s).length → 1 ≤ m → m ≤ 16 → CommSays s k i m l
  | n, k, i, m, [], hn, hk, hd, hi, hm1, hm2 => by
    obtain ⟨k, rfl⟩ : ∃ j, k = j + 1 := ⟨k - 1, by omega⟩
    have := drop_nil hd
    rw [bs_length] at this hi
    refine .inr ⟨9, by decide, ?_, fun acc => rfl⟩
    rw [lex_comment.l0, if_neg (by omega), if_pos (by omega)]
    rfl
  | 0, k, i, m, c :: l, hn, hk, hd, hi, hm1, hm2 => by simp at hn
  | n + 1, k, i, m, c :: l, hn, hk, hd, hi, hm1, hm2 => by
    obtain ⟨k, rfl⟩ : ∃ j, k = j + 3 := ⟨k - 3, by omega⟩
    obtain ⟨h1, h2, h3, h4⟩ := drop_cons hd
    have h5 : i < s.size := by rw [bs_length] at h1; exact h1
    simp only [List.length_cons] at hn
    have e1 : wrap64 ((i : Int) + 1) = ((i + 1 : Nat) : Int) := wrap_succ i (by omega)
    have e2 : wrap64 (wrap64 ((i : Int) + 1) + 1) = ((i + 2 : Nat) : Int) := by rw [e1, wrap_succ (i + 1) (by omega)]
    have hstart : lex_comment.l0 (k + 3) s (m : Int) (i : Int) = (if foldAt (c :: l) = true then (lex_comment.l0 (k + 2) s (m : Int) ((i + 2 : Nat) : Int)) else (if (c.toNat : Int) = 92 then (if escL l = 0 then (lex_comment.l0 (k + 2) s (m : Int) ((i + 2 : Nat) : Int)) else some ((⟨#[]⟩ : ByteArray), escL l)) else (if (c.toNat : Int) = 40 then lex_comment.j1 (k + 2) s (m : Int) (i : Int) (c.toNat : Int) ((m : Int) == 16) else lex_comment.j1 (k + 2) s (m : Int) (i : Int) (c.toNat : Int) false))) := by
      rw [lex_comment.l0, if_pos (by omega), if_pos (by omega), if_pos (by omega)]
      simp only [Int.toNat_natCast]
      rw [lexfold_is _ (by simp only [ByteArray.size_extract]; omega), bs_rest, hd, Option.bind_some]
      cases hf : foldAt (c :: l) with
      | true => rw [if_pos rfl, if_pos rfl, e2]
      | false =>
        rw [if_neg (c := false = true) (by decide), if_neg (c := false = true) (by decide), bt_drop hd]
        by_cases c92 : (c.toNat : Int) = 92
        · rw [if_pos c92, if_pos c92, e1, if_pos (by omega), if_pos (by omega)]
          simp only [Int.toNat_natCast]
          rw [lexescaped_is, bs_rest, h3, Option.bind_some, wrap_succ (i + 1) (by omega)]
        · rw [if_neg c92, if_neg c92]
    cases hf : foldAt (c :: l) with
    | true =>
      obtain ⟨t1, t2, t3⟩ := tail_drop hd hf
      rw [hf, if_pos rfl] at hstart
      refine (lexcomment_l0 s hs n (k + 2) (i + 2) m l.tail (by omega) (by omega) t1 t2 hm1 hm2).le hstart (by simp; omega) (fun acc => ?_)
      rw [scanL_cons]
      unfold step
      simp only []
      rw [hf, if_pos rfl]
    | false =>
      rw [hf, if_neg (by decide)] at hstart
      by_cases c92 : c = 92
      · rw [if_pos (by rw [c92]; rfl)] at hstart
        have hst : ∀ acc, scanL acc (.comm m false) (c :: l) = scanL acc (.comm m true) l := by
          intro acc
          rw [scanL_cons]
          unfold step
          simp only []
          rw [hf, if_neg (by decide), if_pos c92]
        cases hl : l with
        | nil =>
          rw [hl] at hstart
          refine .inr ⟨9, by decide, hstart.trans rfl, fun acc => ?_⟩
          rw [← hl, hst, hl]
          rfl
        | cons x l2 =>
          have hdx : (bs s).drop (i + 1) = x :: l2 := by rw [h3, hl]
          obtain ⟨g1, g2, g3, g4⟩ := drop_cons hdx
          have hsx : ∀ acc, scanL acc (.comm m false) (c :: x :: l2) = if text x = true then scanL acc (.comm m false) l2 else ([], 3) := by
            intro acc
            rw [← hl, hst, hl, scanL_cons]
            unfold step
            cases text x <;> rfl
          rw [hl] at hstart hn
          simp only [List.length_cons] at hn
          cases ht : text x with
          | true =>
            rw [show escL (x :: l2) = 0 by show (if text x = true then (0 : Int) else 3) = 0; rw [ht]; rfl, if_pos rfl] at hstart
            refine (lexcomment_l0 s hs n (k + 2) (i + 2) m l2 (by omega) (by omega) g3 (by omega) hm1 hm2).le hstart (by simp; omega) (fun acc => ?_)
            rw [hsx, ht, if_pos rfl]
          | false =>
            rw [show escL (x :: l2) = 3 by show (if text x = true then (0 : Int) else 3) = 3; rw [ht]; rfl, if_neg (by decide)] at hstart
            exact .inr ⟨3, by decide, hstart, fun acc => by rw [hsx, ht]; rfl⟩
      · rw [if_neg (c := (c.toNat : Int) = 92) (fun h => c92 ((byte_ofNat c 92 (by decide)).1 h))] at hstart
        have hst : text c = true → ∀ acc, scanL acc (.comm m false) (c :: l) = (match commAfter acc (if c = 40 then m + 1 else if c = 41 then m - 1 else m) l with | .inl (a, t, r) => scanL a t r | .inr e => ([], e)) := by
          intro ht acc
          rw [scanL_cons]
          unfold step
          simp only []
          rw [hf, ht, if_neg (by decide), if_neg c92, if_pos rfl]
          all_goals rfl
        by_cases c40 : c = 40
        · have ht : text c = true := by rw [c40]; exact text_40
          rw [if_pos (by rw [c40]; rfl), lex_comment.j1] at hstart
          by_cases h16 : m = 16
          · rw [show ((m : Int) == 16) = true by rw [h16]; rfl, if_pos rfl] at hstart
            refine .inr ⟨1, by decide, hstart, fun acc => ?_⟩
            rw [hst ht, if_pos c40]
            unfold commAfter
            rw [if_pos (by omega)]
          · rw [show ((m : Int) == 16) = false by rw [beq_eq_false_iff_ne]; omega, if_neg (by decide), if_pos (by rw [c40]; rfl), e1, wrap_id (by omega) (by omega), show ((m : Int) + 1) = ((m + 1 : Nat) : Int) by omega] at hstart
            refine (lexcomment_l0 s hs n (k + 1) (i + 1) (m + 1) l (by omega) (by omega) h3 (by omega) (by omega) (by omega)).le hstart (by simp) (fun acc => ?_)
            rw [hst ht, if_pos c40]
            unfold commAfter
            rw [if_neg (by omega), if_neg (by omega)]
        · rw [if_neg (c := (c.toNat : Int) = 40) (fun h => c40 ((byte_ofNat c 40 (by decide)).1 h)), lex_comment.j1, if_neg (by decide), if_neg (c := (c.toNat : Int) = 40) (fun h => c40 ((byte_ofNat c 40 (by decide)).1 h))] at hstart
          by_cases c41 : c = 41
          · have ht : text c = true := by rw [c41]; exact text_41
            rw [if_pos (by rw [c41]; rfl), lex_comment.j2] at hstart
            by_cases h1' : m = 1
            · rw [show ((m : Int) == 1) = true by rw [h1']; rfl, if_pos rfl, e1, if_pos (by omega), if_pos (by omega), if_neg (by decide)] at hstart
              simp only [Int.toNat_natCast] at hstart
              rw [str_rest, h3] at hstart
              refine .inl ⟨l, hstart, by simp, fun acc => ?_⟩
              rw [hst ht, if_neg c40, if_pos c41, h1']
              rfl
            · rw [show ((m : Int) == 1) = false by rw [beq_eq_false_iff_ne]; omega, if_neg (by decide), if_pos (by rw [c41]; rfl), e1, wrap_id (by omega) (by omega), show ((m : Int) - 1) = ((m - 1 : Nat) : Int) by omega] at hstart
              refine (lexcomment_l0 s hs n k (i + 1) (m - 1) l (by omega) (by omega) h3 (by omega) (by omega) (by omega)).le hstart (by simp) (fun acc => ?_)
              rw [hst ht, if_neg c40, if_pos c41]
              unfold commAfter
              rw [if_neg (by omega), if_neg (by omega)]
          · rw [if_neg (c := (c.toNat : Int) = 41) (fun h => c41 ((byte_ofNat c 41 (by decide)).1 h)), lex_comment.j2, if_neg (by decide), if_neg (c := (c.toNat : Int) = 41) (fun h => c41 ((byte_ofNat c 41 (by decide)).1 h)), text_is, Option.bind_some] at hstart
            cases ht : text c with
            | true =>
              rw [ht, if_pos rfl, e1] at hstart
              refine (lexcomment_l0 s hs n k (i + 1) m l (by omega) (by omega) h3 (by omega) hm1 hm2).le hstart (by simp) (fun acc => ?_)
              rw [hst ht, if_neg c40, if_neg c41]
              unfold commAfter
              rw [if_neg (by omega), if_neg (by omega)]
            | false =>
              rw [ht, if_neg (by decide)] at hstart
              refine .inr ⟨3, by decide, hstart, fun acc => ?_⟩
              rw [scanL_cons]
              unfold step
              simp only []
              rw [hf, ht, if_neg (by decide), if_neg c92, if_neg (by decide)]

theorem lexatom_l0 (s : ByteArray) (hs : s.size ≤ 1000000) : ∀ (n k i : Nat) (l : Bytes), l.length ≤ n → n + 1 ≤ k → (bs s).drop i = l → i ≤ (bs s).length → 1 ≤ i →
    ∃ j, i ≤ j ∧ j ≤ (bs s).length ∧ lex_next.l0 k s (i : Int) = some (1, str ((bs s).take j), str ((bs s).drop j), 0) ∧ ∀ acc, scanL acc (.atom ((bs s).take i)) l = scanL (acc ++ [(1, (bs s).take j)]) .out ((bs s).drop j)
  | n, k, i, [], hn, hk, hd, hi, h1 => by
    obtain ⟨k, rfl⟩ : ∃ j, k = j + 1 := ⟨k - 1, by omega⟩
    have := drop_nil hd
    have hl := bs_length s
    refine ⟨i, Nat.le_refl _, hi, ?_, fun acc => by rw [hd]; rfl⟩
    rw [lex_next.l0, if_neg (by omega), if_neg (by omega), if_pos (by omega), if_pos (by omega)]
    simp only [Int.toNat_natCast]
    rw [str_rest, show s.extract 0 i = str ((bs s).take i) by apply bs_inj; rw [bs_extract, bs_str, List.drop_zero]]
  | 0, k, i, c :: l, hn, hk, hd, hi, h1 => by simp at hn
  | n + 1, k, i, c :: l, hn, hk, hd, hi, h0 => by
    obtain ⟨k, rfl⟩ : ∃ j, k = j + 1 := ⟨k - 1, by omega⟩
    obtain ⟨h1, h2, h3, h4⟩ := drop_cons hd
    have h5 : i < s.size := by rw [bs_length] at h1; exact h1
    simp only [List.length_cons] at hn
    cases ha : atomic c with
    | true =>
      obtain ⟨j, q1, q2, q3, q4⟩ := lexatom_l0 s hs n k (i + 1) l (by omega) (by omega) h3 (by omega) (by omega)
      refine ⟨j, by omega, q2, ?_, fun acc => ?_⟩
      · rw [lex_next.l0, if_pos (by omega), if_pos (by omega), bt_drop hd, atomic_is, Option.bind_some, ha, if_pos rfl, wrap_succ i (by omega)]
        exact q3
      · rw [scanL_cons]
        unfold step
        simp only []
        rw [ha, if_pos rfl, ← h4]
        exact q4 acc
    | false =>
      refine ⟨i, Nat.le_refl _, by omega, ?_, fun acc => ?_⟩
      · rw [lex_next.l0, if_pos (by omega), if_pos (by omega), bt_drop hd, atomic_is, Option.bind_some, ha, if_neg (by decide), if_neg (by omega), if_pos (by omega)]
        simp only [Int.toNat_natCast]
        rw [str_rest, show s.extract 0 i = str ((bs s).take i) by apply bs_inj; rw [bs_extract, bs_str, List.drop_zero]]
      · rw [hd, scanL_cons, scanL_cons]
        unfold step
        simp only []
        rw [ha, if_neg (by decide)]
theorem wrap_01 : wrap64 ((0 : Int) + 1) = ((1 : Nat) : Int) := wrap_succ 0 (by decide)
theorem lexnext_is (s : ByteArray) (hs : s.size ≤ 1000000) (c : UInt8) (l : Bytes) (hb : bs s = c :: l) (k : Nat) (hk : 3 * s.size + 10 ≤ k) :
    (∃ (kd : Int) (t r : Bytes), lex_next.f k s = some (kd, str t, str r, 0) ∧ r.length ≤ l.length ∧ ∀ acc, scanL acc .out (c :: l) = scanL (if kd = 0 then acc else acc ++ [(kd, t)]) .out r) ∨
    (∃ (kd : Int) (t : Bytes) (r : ByteArray) (e : Int), e ≠ 0 ∧ lex_next.f k s = some (kd, str t, r, e) ∧ ∀ acc, scanL acc .out (c :: l) = ([], e)) := by
  have hlen := bs_length s
  rw [hb] at hlen
  simp only [List.length_cons] at hlen
  have hd : (bs s).drop 0 = c :: l := by rw [hb]; rfl
  have hd1 : (bs s).drop 1 = l := (drop_cons hd).2.2.1
  have hbt : bt s 0 = (c.toNat : Int) := bt_drop hd
  have eE : s.extract 1 s.size = str l := by rw [str_rest, hd1]
  have hsc : ∀ acc, scanL acc .out (c :: l) = (match stepOut acc c l with | .inl (a, t, r) => scanL a t r | .inr e => ([], e)) := by
    intro acc
    rw [scanL_cons]
    rfl
  have hout : ∀ (a b d e f g : Bool), foldAt (c :: l) = a → atomic c = b → signB c = f → whiteB c = g → ∀ acc, stepOut acc c l = if a = true then .inl (acc, .out, l.tail) else if b = true then .inl (acc, .atom [c], l) else if c = 34 then .inl (acc, .quot [] false, l) else if c = 40 then .inl (acc, .comm 1 false, l) else if f = true then .inl (acc ++ [(3, [c])], .out, l) else if g = true then .inl (acc, .out, l) else .inr 3 := by
    intro a b d e f g h1 h2 h3 h4 acc
    unfold stepOut
    rw [h1, h2, h3, h4]
  unfold lex_next.f
  rw [if_pos (by omega), hbt, lexwhite_is, Option.bind_some]
  cases hw : whiteB c with
  | true =>
    obtain ⟨n13, n40, n34, na, ns⟩ := white_apart c hw
    have hf := fold_not n13 l
    rw [if_pos rfl, if_pos (by omega), eE]
    refine .inl ⟨0, [], l, rfl, Nat.le_refl _, fun acc => ?_⟩
    rw [hsc, hout false false false false false true hf na ns hw, if_neg (by decide), if_neg (by decide), if_neg n34, if_neg n40, if_neg (by decide), if_pos rfl, if_pos rfl]
  | false =>
    rw [if_neg (by decide), lexfold_is s hs, Option.bind_some, hb]
    cases hf : foldAt (c :: l) with
    | true =>
      obtain ⟨t1, t2, t3⟩ := tail_drop hd hf
      rw [bs_length] at t2
      rw [if_pos rfl, if_pos (by omega), show s.extract 2 s.size = str l.tail by rw [str_rest]; congr 1]
      refine .inl ⟨0, [], l.tail, rfl, by simp, fun acc => ?_⟩
      rw [hsc, hout true _ false false _ _ hf rfl rfl rfl, if_pos rfl, if_pos rfl]
    | false =>
      rw [if_neg (c := false = true) (by decide)]
      by_cases c40 : c = 40
      · have na : atomic c = false := by rw [c40]; decide +kernel
        rw [if_pos (by rw [c40]; rfl)]
        obtain ⟨k, rfl⟩ : ∃ j, k = j + 2 := ⟨k - 2, by omega⟩
        have hcm : lex_comment.f (k + 2) s = lex_comment.l0 k s ((1 : Nat) : Int) ((1 : Nat) : Int) := by
          unfold lex_comment.f
          rw [lex_comment.l0, if_pos (by omega), if_pos (by decide), if_pos (by omega), show s.extract (0 : Int).toNat s.size = s from extract_all s, lexfold_is s hs, hb, hf, Option.bind_some, if_neg (by decide), hbt, if_neg (c := (c.toNat : Int) = 92) (by rw [c40]; decide), if_pos (by rw [c40]; rfl), show ((0 : Int) == 16) = false from rfl, lex_comment.j1, if_neg (by decide), if_pos (by rw [c40]; rfl), wrap_01]
        rw [hcm]
        have hso : ∀ acc, scanL acc .out (c :: l) = scanL acc (.comm 1 false) l := by
          intro acc
          rw [hsc, hout false false false false _ _ hf na rfl rfl, if_neg (by decide), if_neg (by decide), if_neg (by rw [c40]; decide), if_pos c40]
        rcases lexcomment_l0 s hs l.length k 1 1 l (Nat.le_refl _) (by omega) hd1 (by rw [hb]; simp) (by decide) (by decide) with ⟨r, h1, h2, h3⟩ | ⟨e, h1, h2, h3⟩
        · rw [h1]
          exact .inl ⟨0, [], r, rfl, h2, fun acc => by rw [hso, h3, if_pos rfl]⟩
        · rw [h2]
          exact .inr ⟨0, [], str [], e, h1, rfl, fun acc => by rw [hso, h3]⟩
      · rw [if_neg (c := (c.toNat : Int) = 40) (fun h => c40 ((byte_ofNat c 40 (by decide)).1 h))]
        by_cases c34 : c = 34
        · have na : atomic c = false := by rw [c34]; decide +kernel
          rw [if_pos (by rw [c34]; rfl)]
          have hso : ∀ acc, scanL acc .out (c :: l) = scanL acc (.quot [] false) l := by
            intro acc
            rw [hsc, hout false false false false _ _ hf na rfl rfl, if_neg (by decide), if_neg (by decide), if_pos c34]
          rcases lexquoted_l0 s hs l.length k 1 [] l (Nat.le_refl _) (by omega) hd1 (by rw [hb]; simp) (by simp) with ⟨w', r, h1, h2, h3⟩ | ⟨e, h1, h2, h3⟩
          · rw [show lex_quoted.f k s = lex_quoted.l0 k s (numsOf []) ((1 : Nat) : Int) from rfl, h1]
            exact .inl ⟨2, w', r, rfl, h2, fun acc => by rw [hso, h3, if_neg (by decide)]⟩
          · rw [show lex_quoted.f k s = lex_quoted.l0 k s (numsOf []) ((1 : Nat) : Int) from rfl, h2]
            exact .inr ⟨0, [], str [], e, h1, rfl, fun acc => by rw [hso, h3]⟩
        · rw [if_neg (c := (c.toNat : Int) = 34) (fun h => c34 ((byte_ofNat c 34 (by decide)).1 h)), lexsign_is, Option.bind_some]
          cases hsg : signB c with
          | true =>
            have na : atomic c = false := by
              cases ha : atomic c with
              | false => rfl
              | true => have := (atomic_apart c ha).2.2.2.2.2; rw [hsg] at this; cases this
            rw [if_pos rfl, if_pos (by decide), if_pos (by omega), eE, show s.extract 0 1 = str [c] from extract_one (i := 0) hd]
            refine .inl ⟨3, [c], l, rfl, Nat.le_refl _, fun acc => ?_⟩
            rw [hsc, hout false false false false true false hf na hsg hw, if_neg (by decide), if_neg (by decide), if_neg c34, if_neg c40, if_pos rfl, if_neg (by decide)]
          | false =>
            rw [if_neg (c := false = true) (by decide)]
            obtain ⟨k, rfl⟩ : ∃ j, k = j + 1 := ⟨k - 1, by omega⟩
            cases ha : atomic c with
            | false =>
              rw [lex_next.l0, if_pos (by omega), if_pos (by decide), hbt, atomic_is, ha, Option.bind_some, if_neg (by decide), if_pos rfl]
              refine .inr ⟨0, [], _, 3, by decide, rfl, fun acc => ?_⟩
              rw [hsc, hout false false false false false false hf ha hsg hw, if_neg (by decide), if_neg (by decide), if_neg c34, if_neg c40, if_neg (by decide), if_neg (by decide)]
            | true =>
              rw [lex_next.l0, if_pos (by omega), if_pos (by decide), hbt, atomic_is, ha, Option.bind_some, if_pos rfl, wrap_01]
              obtain ⟨j, q1, q2, q3, q4⟩ := lexatom_l0 s hs l.length k 1 l (Nat.le_refl _) (by omega) hd1 (by rw [hb]; simp) (by decide)
              rw [q3]
              refine .inl ⟨1, _, _, rfl, ?_, fun acc => ?_⟩
              · rw [hb]
                simp only [List.length_drop, List.length_cons]
                omega
              · rw [hsc, hout false true false false _ _ hf ha rfl rfl, if_neg (by decide), if_pos rfl, if_neg (by decide), ← q4 acc, hb]
                rfl
def tok142 (t : Tok) : S142 := ⟨t.1, str t.2⟩
theorem lexScan_l0 : ∀ (n k : Nat) (s : ByteArray) (acc : List Tok), s.size ≤ n → s.size ≤ 1000000 → 4 * n + 20 ≤ k → acc.length + s.size ≤ 1000000 →
    lex_Scan.l0 k s (acc.map tok142) = some ((scanL acc .out (bs s)).1.map tok142, (scanL acc .out (bs s)).2)
  | n, k, s, acc, hn, hs, hk, ha => by
    obtain ⟨k, rfl⟩ : ∃ j, k = j + 1 := ⟨k - 1, by omega⟩
    have hlen := bs_length s
    rw [lex_Scan.l0, toList_bs]
    cases hb : bs s with
    | nil => rw [if_pos rfl]; rfl
    | cons c l =>
      rw [hb] at hlen
      simp only [List.length_cons] at hlen
      obtain ⟨n, rfl⟩ : ∃ j, n = j + 1 := ⟨n - 1, by omega⟩
      rw [if_neg (by simp)]
      rcases lexnext_is s hs c l hb k (by omega) with ⟨kd, t, r, h1, h2, h3⟩ | ⟨kd, t, r, e, h0, h1, h3⟩
      · rw [h1, Option.bind_some, if_pos rfl, h3]
        by_cases hkd : kd = 0
        · rw [if_pos hkd, if_pos hkd, lexScan_l0 n k (str r) acc (by rw [str_size]; omega) (by rw [str_size]; omega) (by omega) (by rw [str_size]; omega), bs_str]
        · rw [if_neg hkd, if_neg hkd, if_pos (by rw [List.length_map]; omega), show acc.map tok142 ++ [(⟨kd, str t⟩ : S142)] = (acc ++ [(kd, t)]).map tok142 by simp [tok142],
            lexScan_l0 n k (str r) (acc ++ [(kd, t)]) (by rw [str_size]; omega) (by rw [str_size]; omega) (by omega) (by rw [str_size]; simp; omega), bs_str]
      · rw [h1, Option.bind_some, if_neg h0, h3]
        rfl
theorem lexScan_is (s : ByteArray) (hs : s.size ≤ 1000000) (k : Nat) (hk : 4 * s.size + 20 ≤ k) : lex_Scan.f k s = some ((scanL [] .out (bs s)).1.map tok142, (scanL [] .out (bs s)).2) := by
  have := lexScan_l0 s.size k s [] (Nat.le_refl _) hs hk (by simpa using hs)
  unfold lex_Scan.f
  exact this
end Go.Proofs.YtlomcmdbbnbciaaDoor.Pl
set_option linter.unusedVariables false
set_option linter.unusedSimpArgs false
namespace Go.Proofs.YtlomcmdbbnbciaaDoor.Pl
open Go.RowKit Go.Proofs.YtlomcmdbbnbciaaDoorW.PrintWords Go.Proofs.YtlomcmdbbnbciaaDoor.Fn

/-! The reference's glyph functions, as the plain ones. -/
end Go.Proofs.YtlomcmdbbnbciaaDoor.Pl
-- written by xprint.py of this session over the kit's printer; not trusted: Lean checks it
namespace Go.Proofs.YtlomcmdbbnbciaaDoor.Fn
open Go.RowKit Go.Proofs.YtlomcmdbbnbciaaDoorW.PrintWords Go.Proofs.YtlomcmdbbnbciaaDoorW.PrintLast Go.Proofs.YtlomcmdbbnbciaaDoorW.PrintMore
attribute [local go_sem] max2_int min2_int max_two min_two max_three min_three max_four min_four   -- for this text's walks alone
set_option linter.unusedVariables false
set_option linter.unusedSimpArgs false

/-! ### addr_Domain: function 27 -/
end Go.Proofs.YtlomcmdbbnbciaaDoor.Fn
set_option linter.unusedVariables false
namespace Go.Proofs.YtlomcmdbbnbciaaDoor.Pl
open Go.RowKit Go.Proofs.YtlomcmdbbnbciaaDoorW.PrintWords Go.Proofs.YtlomcmdbbnbciaaDoor.Fn

/-! The document's labels, domains, right addresses. -/
def labN (n : Int) : Prop := (97 ≤ n ∧ n ≤ 122) ∨ (65 ≤ n ∧ n ≤ 90) ∨ (48 ≤ n ∧ n ≤ 57) ∨ n = 45
instance (n : Int) : Decidable (labN n) := by unfold labN; infer_instance
end Go.Proofs.YtlomcmdbbnbciaaDoor.Pl
-- written by xprint.py of this session over the kit's printer; not trusted: Lean checks it
namespace Go.Proofs.YtlomcmdbbnbciaaDoor.Fn
open Go.RowKit Go.Proofs.YtlomcmdbbnbciaaDoorW.PrintWords Go.Proofs.YtlomcmdbbnbciaaDoorW.PrintLast Go.Proofs.YtlomcmdbbnbciaaDoorW.PrintMore
attribute [local go_sem] max2_int min2_int max_two min_two max_three min_three max_four min_four   -- for this text's walks alone
set_option linter.unusedVariables false
set_option linter.unusedSimpArgs false

/-! ### bulletinref13_Of: function 88 -/
mutual
def bulletinref13_Of.l0 : Nat → List (S148) → Int → Int → Option (ByteArray × ByteArray × Int)
 | 0, _, _, _ => none
 | k + 1, x0, x4, x5 => if x5 < (x0.length : Int) then (if 0 ≤ x5 then (if ((rd_T148 x0 x5).f0) = 3 then (if ((rd_T148 x0 x5).f1).toList = ([64] : List UInt8) then (if x4 < 0 then (bulletinref13_Of.l0 k x0 x5 (wrap64 (x5 + 1))) else (bulletinref13_Of.l0 k x0 x4 (wrap64 (x5 + 1)))) else (bulletinref13_Of.l0 k x0 x4 (wrap64 (x5 + 1)))) else (bulletinref13_Of.l0 k x0 x4 (wrap64 (x5 + 1)))) else (none)) else (if x4 < 0 then (some ((⟨#[]⟩ : ByteArray), (⟨#[]⟩ : ByteArray), 130)) else (bulletinref13_Of.l1 k x0 x4 0 (⟨#[]⟩ : ByteArray) (⟨#[]⟩ : ByteArray)))
def bulletinref13_Of.l1 : Nat → List (S148) → Int → Int → ByteArray → ByteArray → Option (ByteArray × ByteArray × Int)
 | 0, _, _, _, _, _ => none
 | k + 1, x0, x4, x7, x436000, x436001 => if x7 < (x0.length : Int) then (if 0 ≤ x7 then (if x7 > x4 then (bulletinref13_Of.j2 k x0 x4 x7 (wrap64 ((wrap64 (x7 - x4)) - 1)) x436000 x436001 ((rd_T148 x0 x7).f0) ((rd_T148 x0 x7).f1)) else (bulletinref13_Of.j2 k x0 x4 x7 x7 x436000 x436001 ((rd_T148 x0 x7).f0) ((rd_T148 x0 x7).f1))) else (none)) else (if (Int.tmod x4 2) = 0 then (bulletinref13_Of.j5 k true x436000 x436001) else (bulletinref13_Of.j5 k ((Int.tmod (wrap64 ((wrap64 ((x0.length : Int) - x4)) - 1)) 2) == 0) x436000 x436001))
def bulletinref13_Of.j2 : Nat → List (S148) → Int → Int → Int → ByteArray → ByteArray → Int → ByteArray → Option (ByteArray × ByteArray × Int)
 | 0, _, _, _, _, _, _, _, _ => none
 | k + 1, x0, x4, x7, x9, x436000, x436001, x438000, x438001 => if x7 = x4 then (bulletinref13_Of.j3 k x0 x4 x7 x9 false x436000 x436001 x438000 x438001) else (if (Int.tmod x9 2) = 1 then (if x438000 = 3 then (bulletinref13_Of.j3 k x0 x4 x7 x9 (x438001.toList != ([46] : List UInt8)) x436000 x436001 x438000 x438001) else (bulletinref13_Of.j3 k x0 x4 x7 x9 true x436000 x436001 x438000 x438001)) else (bulletinref13_Of.j3 k x0 x4 x7 x9 false x436000 x436001 x438000 x438001))
def bulletinref13_Of.j3 : Nat → List (S148) → Int → Int → Int → Bool → ByteArray → ByteArray → Int → ByteArray → Option (ByteArray × ByteArray × Int)
 | 0, _, _, _, _, _, _, _, _, _ => none
 | k + 1, x0, x4, x7, x9, x75, x436000, x436001, x438000, x438001 => if x75 = true then (some ((⟨#[]⟩ : ByteArray), (⟨#[]⟩ : ByteArray), 130)) else (if x7 = x4 then (bulletinref13_Of.j4 k x0 x4 x7 false x436000 x436001 x438000 x438001) else (if (Int.tmod x9 2) = 0 then (if x438000 = 3 then (bulletinref13_Of.j4 k x0 x4 x7 true x436000 x436001 x438000 x438001) else (if x7 > x4 then (bulletinref13_Of.j4 k x0 x4 x7 (x438000 != 1) x436000 x436001 x438000 x438001) else (bulletinref13_Of.j4 k x0 x4 x7 false x436000 x436001 x438000 x438001))) else (bulletinref13_Of.j4 k x0 x4 x7 false x436000 x436001 x438000 x438001)))
def bulletinref13_Of.j4 : Nat → List (S148) → Int → Int → Bool → ByteArray → ByteArray → Int → ByteArray → Option (ByteArray × ByteArray × Int)
 | 0, _, _, _, _, _, _, _, _ => none
 | k + 1, x0, x4, x7, x99, x436000, x436001, x438000, x438001 => if x99 = true then (some ((⟨#[]⟩ : ByteArray), (⟨#[]⟩ : ByteArray), 130)) else (if x7 < x4 then (if x436000.size + x438001.size ≤ 9223372036854775807 then (if x7 > x4 then (if x436001.size + x438001.size ≤ 9223372036854775807 then (bulletinref13_Of.l1 k x0 x4 (wrap64 (x7 + 1)) (x436000 ++ x438001) (x436001 ++ x438001)) else (none)) else (bulletinref13_Of.l1 k x0 x4 (wrap64 (x7 + 1)) (x436000 ++ x438001) x436001)) else (none)) else (if x7 > x4 then (if x436001.size + x438001.size ≤ 9223372036854775807 then (bulletinref13_Of.l1 k x0 x4 (wrap64 (x7 + 1)) x436000 (x436001 ++ x438001)) else (none)) else (bulletinref13_Of.l1 k x0 x4 (wrap64 (x7 + 1)) x436000 x436001)))
def bulletinref13_Of.j5 : Nat → Bool → ByteArray → ByteArray → Option (ByteArray × ByteArray × Int)
 | 0, _, _, _ => none
 | k + 1, x130, x436000, x436001 => if x130 = true then (some ((⟨#[]⟩ : ByteArray), (⟨#[]⟩ : ByteArray), 130)) else ((bulletinref06_Fold.f k x436001).bind fun t438 => ((bulletinref13_Why.f k x436000 t438).bind fun t439 => (if t439 = 0 then (some (x436000, t438, 0)) else (some ((⟨#[]⟩ : ByteArray), (⟨#[]⟩ : ByteArray), t439)))))
end
end Go.Proofs.YtlomcmdbbnbciaaDoor.Fn
set_option linter.unusedVariables false
namespace Go.Proofs.YtlomcmdbbnbciaaDoor.Pl
open Go.RowKit Go.Proofs.YtlomcmdbbnbciaaDoorW.PrintWords Go.Proofs.YtlomcmdbbnbciaaDoor.Fn

/-! Layer 13: the address that tokens are. -/
def isT (t : Tok) (s : Bytes) : Bool := t.1 == 3 && t.2 == s
def wordT (t : Tok) : Bool := t.1 != 3
def atomT (t : Tok) : Bool := t.1 != 3 && t.1 == 1
def altOk (p : Tok → Bool) : List Tok → Bool
  | [] => false
  | [x] => p x
  | x :: d :: r => p x && isT d [46] && altOk p r
def cat (l : List Tok) : Bytes := l.flatMap (·.2)
def atSplit : List Tok → Option (List Tok × List Tok)
  | [] => none
  | t :: r => if isT t [64] = true then some ([], r) else (atSplit r).map fun x => (t :: x.1, x.2)
abbrev Res := ByteArray × ByteArray × Int
def finish (a b : Bytes) : Res := if why (str a) (str (fold b)) = 0 then (str a, str (fold b), 0) else (str [], str [], why (str a) (str (fold b)))
def noAddr : Res := (str [], str [], 130)
def ofT (l : List Tok) : Res := match atSplit l with
  | none => noAddr
  | some (A, B) => if altOk wordT A = true ∧ altOk atomT B = true then finish (cat A) (cat B) else noAddr

theorem atSplit_some {l A B : List Tok} (h : atSplit l = some (A, B)) : ∃ t, isT t [64] = true ∧ l = A ++ t :: B ∧ ∀ x ∈ A, isT x [64] = false := by
  induction l generalizing A B with
  | nil => cases h
  | cons t r ih =>
    rw [atSplit] at h
    by_cases ht : isT t [64] = true
    · rw [if_pos ht] at h
      cases h
      exact ⟨t, ht, rfl, by simp⟩
    · rw [if_neg ht] at h
      cases hr : atSplit r with
      | none => rw [hr] at h; cases h
      | some x =>
        obtain ⟨A', B'⟩ := x
        rw [hr] at h
        simp only [Option.map_some, Option.some.injEq, Prod.mk.injEq] at h
        obtain ⟨rfl, rfl⟩ := h
        obtain ⟨u, h1, h2, h3⟩ := ih hr
        refine ⟨u, h1, by rw [h2]; rfl, ?_⟩
        intro x hx
        rcases List.mem_cons.1 hx with e | e
        · rw [e]; simpa using ht
        · exact h3 x e
theorem atSplit_of {A B : List Tok} {t : Tok} (ht : isT t [64] = true) (hA : ∀ x ∈ A, isT x [64] = false) : atSplit (A ++ t :: B) = some (A, B) := by
  induction A with
  | nil => rw [List.nil_append, atSplit, if_pos ht]
  | cons a A ih =>
    rw [List.cons_append, atSplit, if_neg (by rw [hA a (by simp)]; decide), ih (fun x hx => hA x (List.mem_cons_of_mem _ hx))]
    rfl

/-! the program's: words joined by dots, as long as they go on -/
def jn (p : Tok → Bool) : List Tok → Option (Bytes × List Tok)
  | [] => none
  | [x] => if p x = true then some (x.2, []) else none
  | x :: d :: r => if p x = true then (if isT d [46] = true then (jn p r).map fun y => (x.2 ++ d.2 ++ y.1, y.2) else some (x.2, d :: r)) else none
theorem jn_some (p : Tok → Bool) : ∀ {l : List Tok} {s : Bytes} {q : List Tok}, jn p l = some (s, q) → ∃ A, l = A ++ q ∧ altOk p A = true ∧ s = cat A
  | [], s, q, h => by cases h
  | [x], s, q, h => by
    rw [jn] at h
    by_cases hp : p x = true
    · rw [if_pos hp] at h
      simp only [Option.some.injEq, Prod.mk.injEq] at h
      obtain ⟨rfl, rfl⟩ := h
      exact ⟨[x], rfl, hp, by simp [cat]⟩
    · rw [if_neg hp] at h; cases h
  | x :: d :: r, s, q, h => by
    rw [jn] at h
    by_cases hp : p x = true
    · rw [if_pos hp] at h
      by_cases hd : isT d [46] = true
      · rw [if_pos hd] at h
        cases hr : jn p r with
        | none => rw [hr] at h; cases h
        | some y =>
          obtain ⟨s', q'⟩ := y
          rw [hr] at h
          simp only [Option.map_some, Option.some.injEq, Prod.mk.injEq] at h
          obtain ⟨rfl, rfl⟩ := h
          obtain ⟨A, h1, h2, h3⟩ := jn_some p hr
          refine ⟨x :: d :: A, by rw [h1]; rfl, ?_, ?_⟩
          · rw [altOk, hp, hd, h2]; rfl
          · rw [h3]; simp [cat]
      · rw [if_neg hd] at h
        simp only [Option.some.injEq, Prod.mk.injEq] at h
        obtain ⟨rfl, rfl⟩ := h
        exact ⟨[x], rfl, hp, by simp [cat]⟩
    · rw [if_neg hp] at h; cases h
theorem jn_of (p : Tok → Bool) : ∀ (A q : List Tok), altOk p A = true → (∀ d r, q = d :: r → isT d [46] = false) → jn p (A ++ q) = some (cat A, q)
  | [], q, h, _ => by cases h
  | [x], q, h, hq => by
    have hp : p x = true := h
    cases q with
    | nil => rw [List.append_nil, jn, if_pos hp]; simp [cat]
    | cons d r =>
      rw [show [x] ++ d :: r = x :: d :: r from rfl, jn, if_pos hp, if_neg (by rw [hq d r rfl]; decide)]
      simp [cat]
  | x :: d :: A, q, h, hq => by
    rw [altOk, Bool.and_eq_true, Bool.and_eq_true] at h
    rw [show (x :: d :: A) ++ q = x :: d :: (A ++ q) from rfl, jn, if_pos h.1.1, if_pos h.1.2, jn_of p A q h.2 hq]
    simp [cat]
def resJ (w : Bytes) : Option (Bytes × List Tok) → ByteArray × List S142 × Bool
  | none => (str [], [], false)
  | some (s, q) => (str (w ++ s), q.map tok142, true)
def pOf (b : Bool) : Tok → Bool := fun t => if b = true then atomT t else wordT t
theorem rd142_0 (x : Tok) (r : List Tok) : rd_T142 ((x :: r).map tok142) 0 = tok142 x := rfl
theorem beq_str (t : Bytes) (a : Array UInt8) : ((str t).toList == (⟨a⟩ : ByteArray).toList) = (t == a.toList) := by
  rw [toList_str, toList_bs]
  rfl
def headIs (l : List Tok) (s : Bytes) : Bool := match l with | [] => false | t :: _ => isT t s
theorem addris_is (l : List Tok) (a : Array UInt8) : addr_is.f (l.map tok142) (⟨a⟩ : ByteArray) = some (headIs l a.toList) := by
  unfold addr_is.f
  cases l with
  | nil => rw [if_neg (by simp)]; rfl
  | cons t r =>
    rw [if_pos (by simp <;> omega), if_pos (by simp <;> omega), rd142_0]
    unfold headIs isT tok142
    simp only []
    rw [beq_str]
theorem joined_is (b : Bool) : ∀ (n k : Nat) (l : List Tok) (w : Bytes), l.length ≤ n → 2 * n + 2 ≤ k → w.length + (cat l).length ≤ 1000000 →
    addr_joined.l0 k (l.map tok142) b (str w) = some (resJ w (jn (pOf b) l))
  | n, k, [], w, hn, hk, hw => by
    obtain ⟨k, rfl⟩ : ∃ j, k = j + 2 := ⟨k - 2, by omega⟩
    rw [addr_joined.l0, if_pos (by simp), addr_joined.j1, if_pos rfl]
    rfl
  | 0, k, x :: r, w, hn, hk, hw => by simp at hn
  | n + 1, k, x :: r, w, hn, hk, hw => by
    obtain ⟨k, rfl⟩ : ∃ j, k = j + 2 := ⟨k - 2, by omega⟩
    simp only [List.length_cons] at hn
    have hsel : addr_joined.l0 (k + 2) ((x :: r).map tok142) b (str w) = addr_joined.j1 (k + 1) ((x :: r).map tok142) b (str w) (!(pOf b x)) := by
      rw [addr_joined.l0, if_neg (by simp <;> omega), if_pos (by simp <;> omega), rd142_0]
      have e3 : ((tok142 x).f0 = 3) = (x.1 = 3) := rfl
      unfold pOf atomT wordT
      by_cases h3 : x.1 = 3
      · rw [if_pos (by rw [e3]; exact h3)]
        cases b <;> simp [h3]
      · rw [if_neg (by rw [e3]; exact h3)]
        have q3 : (x.1 == 3) = false := by simpa using h3
        cases b with
        | true => rw [if_pos rfl]; simp [q3, tok142, bne]
        | false => rw [if_neg (by decide)]; simp [q3, bne]
    have hc : (cat (x :: r)).length = x.2.length + (cat r).length := by simp [cat]
    rw [hsel, addr_joined.j1]
    cases hp : pOf b x with
    | false =>
      rw [show (!false) = true from rfl, if_pos rfl]
      have : jn (pOf b) (x :: r) = none := by
        cases r with
        | nil => rw [jn, if_neg (by rw [hp]; decide)]
        | cons d r => rw [jn, if_neg (by rw [hp]; decide)]
      rw [this]
      rfl
    | true =>
      rw [show (!true) = false from rfl, if_neg (by decide), if_pos (by simp <;> omega), rd142_0, show (tok142 x).f1 = str x.2 from rfl, str_app, if_pos (by rw [str_size, str_size]; omega), if_pos (by simp <;> omega), Option.bind_some,
        show ((x :: r).map tok142).drop 1 = r.map tok142 from rfl, addris_is, Option.bind_some]
      cases r with
      | nil =>
        rw [show headIs [] (#[46] : Array UInt8).toList = false from rfl, if_neg (by decide), jn, if_pos hp]
        rfl
      | cons d r =>
        simp only [List.length_cons] at hn
        have hc2 : (cat (d :: r)).length = d.2.length + (cat r).length := by simp [cat]
        rw [jn, if_pos hp]
        cases hd : isT d [46] with
        | false =>
          rw [show headIs (d :: r) (#[46] : Array UInt8).toList = isT d [46] from rfl, hd, if_neg (by decide), if_neg (by decide)]
          rfl
        | true =>
          have hd2 : d.2 = [46] := by
            unfold isT at hd
            rw [Bool.and_eq_true, beq_iff_eq, beq_iff_eq] at hd
            exact hd.2
          rw [show headIs (d :: r) (#[46] : Array UInt8).toList = isT d [46] from rfl, hd, if_pos rfl, if_pos (by rw [str_size]; rw [hd2] at hc2; simp at hc2 ⊢ <;> omega), if_pos (by simp <;> omega), if_pos rfl,
            show ((d :: r).map tok142).drop 1 = r.map tok142 from rfl, show (⟨#[46]⟩ : ByteArray) = str [46] from rfl, str_app]
          rw [joined_is b n k r (w ++ x.2 ++ [46]) (by omega) (by omega) (by rw [hd2] at hc2; simp at hc2 ⊢ <;> omega)]
          cases hj : jn (pOf b) r with
          | none => rfl
          | some y =>
            obtain ⟨s, q⟩ := y
            simp [resJ, hd2]
theorem no64 {p : Tok → Bool} (hp : ∀ t, p t = true → t.1 ≠ 3) : ∀ {A : List Tok}, altOk p A = true → ∀ x ∈ A, isT x [64] = false
  | [], h, x, hx => by cases hx
  | [y], h, x, hx => by
    have : x = y := by simpa using hx
    subst this
    have := hp x h
    unfold isT
    simp [this]
  | y :: d :: A, h, x, hx => by
    rw [altOk, Bool.and_eq_true, Bool.and_eq_true] at h
    rcases List.mem_cons.1 hx with e | e
    · rw [e]
      have := hp y h.1.1
      unfold isT
      simp [this]
    · rcases List.mem_cons.1 e with e | e
      · rw [e]
        have := h.1.2
        unfold isT at this ⊢
        rw [Bool.and_eq_true, beq_iff_eq, beq_iff_eq] at this
        rw [this.2]
        simp
      · exact no64 hp h.2 x e
theorem addrOf_is (l : List Tok) (hl : l.length ≤ 100000) (hc : (cat l).length ≤ 100000) (k : Nat) (hk : 2 * l.length + 400000 ≤ k) : addr_Of.f k (l.map tok142) = some (ofT l) := by
  obtain ⟨k, rfl⟩ : ∃ j, k = j + 2 := ⟨k - 2, by omega⟩
  have bad : ∀ (k : Nat) (x : List S142) (y : ByteArray), addr_Of.j0 (k + 1) x y true = some noAddr := by
    intro k x y
    rw [addr_Of.j0, if_pos rfl]
    rfl
  have bad1 : ∀ (k : Nat) (x y : ByteArray), addr_Of.j1 (k + 1) x y true = some noAddr := by
    intro k x y
    rw [addr_Of.j1, if_pos rfl]
    rfl
  unfold addr_Of.f addr_joined.f
  rw [show (⟨#[]⟩ : ByteArray) = str [] from rfl, joined_is false l.length (k + 2) l [] (Nat.le_refl _) (by omega) (by simp <;> omega), Option.bind_some]
  have hpf : pOf false = wordT := by funext t; rfl
  have hpt : pOf true = atomT := by funext t; rfl
  rw [hpf]
  have hword : ∀ t, wordT t = true → t.1 ≠ 3 := fun t h => by unfold wordT at h; simpa using h
  cases hj : jn wordT l with
  | none =>
    rw [show resJ [] none = (str [], [], false) from rfl, if_neg (by decide), bad]
    unfold ofT
    cases hs : atSplit l with
    | none => rfl
    | some x =>
      obtain ⟨A, B⟩ := x
      obtain ⟨t, h1, h2, h3⟩ := atSplit_some hs
      simp only []
      rw [if_neg]
      rintro ⟨g, _⟩
      have := jn_of wordT A (t :: B) g (fun d r e => by
        cases e
        unfold isT at h1 ⊢
        rw [Bool.and_eq_true, beq_iff_eq, beq_iff_eq] at h1
        rw [h1.2]
        simp)
      rw [← h2, hj] at this
      cases this
  | some y =>
    obtain ⟨s, q⟩ := y
    obtain ⟨A0, g1, g2, g3⟩ := jn_some wordT hj
    have hA0 := no64 hword g2
    rw [show resJ [] (some (s, q)) = (str s, q.map tok142, true) from rfl]
    simp only [if_true]
    rw [addris_is, Option.bind_some]
    have hother : (∀ t r, q = t :: r → isT t [64] = false) → ofT l = noAddr := by
      intro hq
      unfold ofT
      cases hs : atSplit l with
      | none => rfl
      | some x =>
        obtain ⟨A, B⟩ := x
        obtain ⟨t, h1, h2, h3⟩ := atSplit_some hs
        simp only []
        rw [if_neg]
        rintro ⟨g, _⟩
        have hh := jn_of wordT A (t :: B) g (fun d r e => by
          cases e
          unfold isT at h1 ⊢
          rw [Bool.and_eq_true, beq_iff_eq, beq_iff_eq] at h1
          rw [h1.2]
          simp)
        rw [← h2, hj] at hh
        simp only [Option.some.injEq, Prod.mk.injEq] at hh
        have := hq t B hh.2
        rw [h1] at this
        cases this
    cases q with
    | nil =>
      rw [hother (fun t r e => by cases e)]
      exact bad _ _ _
    | cons t B =>
      simp only []
      rw [show headIs (t :: B) (#[64] : Array UInt8).toList = isT t [64] from rfl]
      cases ht : isT t [64] with
      | false =>
        rw [hother (fun t' r e => by cases e; exact ht)]
        exact bad _ _ _
      | true =>
        have hsp : atSplit l = some (A0, B) := by rw [g1]; exact atSplit_of ht hA0
        have hcl : (cat l).length = (cat A0).length + (t.2.length + (cat B).length) := by rw [g1]; simp [cat]
        have hll : l.length = A0.length + (B.length + 1) := by rw [g1]; simp
        rw [show (!true) = false from rfl, addr_Of.j0, if_neg (by decide), if_pos (by simp <;> omega), show ((t :: B).map tok142).drop 1 = B.map tok142 from rfl]
        unfold addr_joined.f
        rw [show (⟨#[]⟩ : ByteArray) = str [] from rfl, joined_is true B.length (k + 1) B [] (Nat.le_refl _) (by omega) (by simp <;> omega), Option.bind_some, hpt]
        unfold ofT
        rw [hsp]
        simp only []
        cases hj2 : jn atomT B with
        | none =>
          rw [show resJ [] none = (str [], [], false) from rfl, if_neg (by decide), bad1, if_neg]
          rintro ⟨_, g⟩
          have := jn_of atomT B [] g (fun d r e => by cases e)
          rw [List.append_nil, hj2] at this
          cases this
        | some y =>
          obtain ⟨s2, q2⟩ := y
          obtain ⟨A2, f1, f2, f3⟩ := jn_some atomT hj2
          rw [show resJ [] (some (s2, q2)) = (str s2, q2.map tok142, true) from rfl]
          simp only [if_true]
          cases q2 with
          | cons d r =>
            rw [show decide (((((d :: r).map tok142).length : Nat) : Int) > 0) = true by simp <;> omega, bad1, if_neg]
            rintro ⟨_, g⟩
            have := jn_of atomT B [] g (fun d r e => by cases e)
            rw [List.append_nil, hj2] at this
            simp at this
          | nil =>
            rw [List.append_nil] at f1
            subst f1
            rw [show decide ((((([] : List Tok).map tok142).length : Nat) : Int) > 0) = false from rfl, addr_Of.j1, if_neg (by decide), if_pos ⟨g2, f2⟩, f3, g3]
            have hb : (cat B).length ≤ 100000 := by omega
            have ha : (cat A0).length ≤ 100000 := by omega
            rw [glyphFold_is _ (by rw [str_size]; omega), bs_str, Option.bind_some, addrWhy_is _ _ (by rw [str_size]; omega) (by rw [str_size, fold_length]; omega) k (by rw [str_size]; omega), Option.bind_some]
            unfold finish
            by_cases hw : why (str (cat A0)) (str (fold (cat B))) = 0
            · rw [if_pos hw, if_pos hw]
            · rw [if_neg hw, if_neg hw]
              rfl
end Go.Proofs.YtlomcmdbbnbciaaDoor.Pl
set_option linter.unusedVariables false
namespace Go.Proofs.YtlomcmdbbnbciaaDoor.Pl
open Go.RowKit Go.Proofs.YtlomcmdbbnbciaaDoorW.PrintWords Go.Proofs.YtlomcmdbbnbciaaDoor.Fn

/-! Layer 13, the document's: the address that tokens are. -/
end Go.Proofs.YtlomcmdbbnbciaaDoor.Pl
set_option linter.unusedVariables false
namespace Go.Proofs.YtlomcmdbbnbciaaDoor.Pl
open Go.RowKit Go.Proofs.YtlomcmdbbnbciaaDoorW.PrintWords Go.Proofs.YtlomcmdbbnbciaaDoor.Fn
set_option maxRecDepth 100000 in
theorem works13_at : bulletinlaw13_works.f 100 = some true := by decide +kernel
theorem works13 (k : Nat) (hk : 100 ≤ k) : bulletinlaw13_works.f k = some true := mono_up bulletinlaw13_works.mono works13_at k hk
end Go.Proofs.YtlomcmdbbnbciaaDoor.Pl
-- written by xprint.py of this session over the kit's printer; not trusted: Lean checks it
namespace Go.Proofs.YtlomcmdbbnbciaaDoor.Fn
open Go.RowKit Go.Proofs.YtlomcmdbbnbciaaDoorW.PrintWords Go.Proofs.YtlomcmdbbnbciaaDoorW.PrintLast Go.Proofs.YtlomcmdbbnbciaaDoorW.PrintMore
attribute [local go_sem] max2_int min2_int max_two min_two max_three min_three max_four min_four   -- for this text's walks alone
set_option linter.unusedVariables false
set_option linter.unusedSimpArgs false

/-! ### bulletinref13_Parse: function 37 -/
end Go.Proofs.YtlomcmdbbnbciaaDoor.Fn
-- written by xprint.py of this session over the kit's printer; not trusted: Lean checks it
namespace Go.Proofs.YtlomcmdbbnbciaaDoor.Fn
open Go.RowKit Go.Proofs.YtlomcmdbbnbciaaDoorW.PrintWords Go.Proofs.YtlomcmdbbnbciaaDoorW.PrintLast Go.Proofs.YtlomcmdbbnbciaaDoorW.PrintMore
attribute [local go_sem] max2_int min2_int max_two min_two max_three min_three max_four min_four   -- for this text's walks alone
set_option linter.unusedVariables false
set_option linter.unusedSimpArgs false

/-! ### bulletinref13_Strict: function 38 -/
end Go.Proofs.YtlomcmdbbnbciaaDoor.Fn
-- written by xprint.py of this session over the kit's printer; not trusted: Lean checks it
namespace Go.Proofs.YtlomcmdbbnbciaaDoor.Fn
open Go.RowKit Go.Proofs.YtlomcmdbbnbciaaDoorW.PrintWords Go.Proofs.YtlomcmdbbnbciaaDoorW.PrintLast Go.Proofs.YtlomcmdbbnbciaaDoorW.PrintMore
attribute [local go_sem] max2_int min2_int max_two min_two max_three min_three max_four min_four   -- for this text's walks alone
set_option linter.unusedVariables false
set_option linter.unusedSimpArgs false

theorem eqA31 (d : Nat) (w : World) (x0 y0 : ByteArray) (x1 y1 : ByteArray) :
    (Op.equalIn (d + 2) 31 (.agg #[.string x0, .string x1]) (.agg #[.string y0, .string y1])).run Tryd.prog w = .ok (x0.toList == y0.toList && (x1.toList == y1.toList)) w := by
  refine eqA_of Tryd.underlying31 (by kernel_rfl) ?_
  refine eqf_cons (by rfl) (by go_simp; rfl) (by go_simp; rfl) (by go_simp) ?_
  exact eqf_last (by rfl) (by go_simp; rfl) (by go_simp; rfl) (by go_simp)
end Go.Proofs.YtlomcmdbbnbciaaDoor.Fn
-- written by xprint.py of this session over the kit's printer; not trusted: Lean checks it
namespace Go.Proofs.YtlomcmdbbnbciaaDoor.Fn
open Go.RowKit Go.Proofs.YtlomcmdbbnbciaaDoorW.PrintWords Go.Proofs.YtlomcmdbbnbciaaDoorW.PrintLast Go.Proofs.YtlomcmdbbnbciaaDoorW.PrintMore
attribute [local go_sem] max2_int min2_int max_two min_two max_three min_three max_four min_four   -- for this text's walks alone
set_option linter.unusedVariables false
set_option linter.unusedSimpArgs false

/-! ### bulletinlaw13_Of: function 39 -/
end Go.Proofs.YtlomcmdbbnbciaaDoor.Fn
-- written by xprint.py of this session over the kit's printer; not trusted: Lean checks it
namespace Go.Proofs.YtlomcmdbbnbciaaDoor.Fn
open Go.RowKit Go.Proofs.YtlomcmdbbnbciaaDoorW.PrintWords Go.Proofs.YtlomcmdbbnbciaaDoorW.PrintLast Go.Proofs.YtlomcmdbbnbciaaDoorW.PrintMore
attribute [local go_sem] max2_int min2_int max_two min_two max_three min_three max_four min_four   -- for this text's walks alone
set_option linter.unusedVariables false
set_option linter.unusedSimpArgs false

attribute [local go_sem high] eqA31
/-! ### bulletinlaw13_AddrReads: function 6 -/
end Go.Proofs.YtlomcmdbbnbciaaDoor.Fn
set_option linter.unusedVariables false
set_option linter.unusedSimpArgs false
namespace Go.Proofs.YtlomcmdbbnbciaaDoor.Pl
open Go.RowKit Go.Proofs.YtlomcmdbbnbciaaDoorW.PrintWords Go.Proofs.YtlomcmdbbnbciaaDoor.Fn

/-! how many tokens there are, and how long they are -/
def pend : Sc → Nat
  | .atom _ => 1
  | _ => 0
theorem cat_app (a b : List Tok) : cat (a ++ b) = cat a ++ cat b := by simp [cat]
theorem tail_len {c : UInt8} {l : Bytes} (h : foldAt (c :: l) = true) : l.tail.length + 1 = l.length := by
  cases l with
  | nil => cases h
  | cons b l => simp
theorem stepOut_bound {acc : List Tok} {c : UInt8} {l : Bytes} {a : List Tok} {t : Sc} {r : Bytes} (h : stepOut acc c l = .inl (a, t, r)) :
    a.length + pend t + r.length ≤ acc.length + (l.length + 1) ∧ (cat a).length + (wOf t).length + r.length ≤ (cat acc).length + (l.length + 1) := by
  unfold stepOut at h
  by_cases c1 : foldAt (c :: l) = true
  · rw [if_pos c1] at h
    have := tail_len c1
    simp only [Sum.inl.injEq, Prod.mk.injEq] at h
    obtain ⟨rfl, rfl, rfl⟩ := h
    simp only [pend, wOf, List.length_nil]
    omega
  · rw [if_neg c1] at h
    repeat' split at h
    all_goals (first | (cases h; done) | (simp only [Sum.inl.injEq, Prod.mk.injEq] at h; obtain ⟨rfl, rfl, rfl⟩ := h; simp only [pend, wOf, cat_app, List.length_append, List.length_nil, List.length_cons]; simp [cat]; try omega))
theorem step_bound {acc : List Tok} {st : Sc} {c : UInt8} {l : Bytes} {a : List Tok} {t : Sc} {r : Bytes} (h : step acc st c l = .inl (a, t, r)) :
    a.length + pend t + r.length ≤ acc.length + pend st + (l.length + 1) ∧ (cat a).length + (wOf t).length + r.length ≤ (cat acc).length + (wOf st).length + (l.length + 1) := by
  cases st with
  | out =>
    have := stepOut_bound h
    rw [show pend .out = 0 from rfl, show wOf .out = [] from rfl, List.length_nil]
    omega
  | atom w =>
    unfold step at h
    simp only [] at h
    by_cases ha : atomic c = true
    · rw [if_pos ha] at h
      simp only [Sum.inl.injEq, Prod.mk.injEq] at h
      obtain ⟨rfl, rfl, rfl⟩ := h
      simp only [pend, wOf, List.length_append, List.length_cons, List.length_nil]
      omega
    · rw [if_neg ha] at h
      have := stepOut_bound h
      rw [cat_app] at this
      rw [show pend (.atom w) = 1 from rfl, show wOf (.atom w) = w from rfl]
      simp only [List.length_append, List.length_cons, List.length_nil] at this ⊢
      have e : (cat [((1 : Int), w)]).length = w.length := by simp [cat]
      omega
  | quot w b =>
    cases b with
    | true =>
      unfold step at h
      simp only [] at h
      repeat' split at h
      all_goals (first | (cases h; done) | (simp only [Sum.inl.injEq, Prod.mk.injEq] at h; obtain ⟨rfl, rfl, rfl⟩ := h; simp only [pend, wOf, List.length_append, List.length_cons, List.length_nil]; omega))
    | false =>
      unfold step at h
      simp only [] at h
      by_cases c1 : foldAt (c :: l) = true
      · rw [if_pos c1] at h
        have := tail_len c1
        simp only [Sum.inl.injEq, Prod.mk.injEq] at h
        obtain ⟨rfl, rfl, rfl⟩ := h
        simp only [pend, wOf]
        omega
      · rw [if_neg c1] at h
        have e : (cat [((2 : Int), w)]).length = w.length := by simp [cat]
        repeat' split at h
        all_goals (first | (cases h; done) | (simp only [Sum.inl.injEq, Prod.mk.injEq] at h; obtain ⟨rfl, rfl, rfl⟩ := h; simp only [pend, wOf, cat_app, List.length_append, List.length_cons, List.length_nil]; omega))
  | comm d b =>
    cases b with
    | true =>
      unfold step at h
      simp only [] at h
      repeat' split at h
      all_goals (first | (cases h; done) | (simp only [Sum.inl.injEq, Prod.mk.injEq] at h; obtain ⟨rfl, rfl, rfl⟩ := h; simp only [pend, wOf, List.length_append, List.length_cons, List.length_nil]; omega))
    | false =>
      unfold step commAfter at h
      simp only [] at h
      by_cases c1 : foldAt (c :: l) = true
      · rw [if_pos c1] at h
        have := tail_len c1
        simp only [Sum.inl.injEq, Prod.mk.injEq] at h
        obtain ⟨rfl, rfl, rfl⟩ := h
        simp only [pend, wOf]
        omega
      · rw [if_neg c1] at h
        generalize (if c = 40 then d + 1 else if c = 41 then d - 1 else d) = d' at h
        repeat' split at h
        all_goals (first | (cases h; done) | (simp only [Sum.inl.injEq, Prod.mk.injEq] at h; obtain ⟨rfl, rfl, rfl⟩ := h; simp only [pend, wOf, List.length_nil]; omega))
theorem scan_bound : ∀ (k : Nat) (acc : List Tok) (st : Sc) (l : Bytes), l.length ≤ k →
    (scan k acc st l).1.length ≤ acc.length + pend st + l.length ∧ (cat (scan k acc st l).1).length ≤ (cat acc).length + (wOf st).length + l.length
  | k, acc, st, [], _ => by
    have e : scan k acc st [] = endOf acc st := by cases k <;> rfl
    rw [e]
    cases st <;> simp [endOf, pend, wOf, cat]
  | 0, acc, st, c :: l, h => by simp at h
  | k + 1, acc, st, c :: l, h => by
    rw [scan]
    simp only [List.length_cons] at h
    cases hs : step acc st c l with
    | inr e => simp [cat]
    | inl x =>
      obtain ⟨a, t, r⟩ := x
      have h1 := step_bound hs
      have h2 := step_le hs
      have ih := scan_bound k a t r (by omega)
      simp only [List.length_cons]
      omega
theorem scanL_bound (l : Bytes) : (scanL [] .out l).1.length ≤ l.length ∧ (cat (scanL [] .out l).1).length ≤ l.length := by
  have := scan_bound l.length [] .out l (Nat.le_refl _)
  unfold scanL
  simp only [List.length_nil, pend, wOf, cat, List.flatMap_nil] at this ⊢
  omega
theorem finish_size (a b : Bytes) : (finish a b).1.size ≤ a.length ∧ (finish a b).2.1.size ≤ b.length := by
  unfold finish
  split
  · simp only [str_size, fold_length]; omega
  · simp only [str_size, List.length_nil]; omega
theorem ofT_size (l : List Tok) : (ofT l).1.size ≤ (cat l).length ∧ (ofT l).2.1.size ≤ (cat l).length := by
  unfold ofT
  cases hs : atSplit l with
  | none => simp [noAddr, str_size]
  | some x =>
    obtain ⟨A, B⟩ := x
    obtain ⟨t, h1, h2, h3⟩ := atSplit_some hs
    have hcl : (cat l).length = (cat A).length + (t.2.length + (cat B).length) := by rw [h2]; simp [cat]
    simp only []
    split
    · have := finish_size (cat A) (cat B)
      omega
    · simp [noAddr, str_size]
def parseL (s : ByteArray) : Res := if (scanL [] .out (bs s)).2 = 0 then ofT (scanL [] .out (bs s)).1 else noAddr
theorem parseL_size (s : ByteArray) : (parseL s).1.size ≤ s.size ∧ (parseL s).2.1.size ≤ s.size := by
  have h := scanL_bound (bs s)
  have h2 := ofT_size (scanL [] .out (bs s)).1
  rw [bs_length] at h
  unfold parseL
  split
  · omega
  · simp [noAddr, str_size]
theorem addrParse_is (s : ByteArray) (hs : s.size ≤ 50000) (k : Nat) (hk : 1000000 ≤ k) : addr_Parse.f k s = some (parseL s) := by
  have h := scanL_bound (bs s)
  rw [bs_length] at h
  unfold addr_Parse.f parseL
  rw [lexScan_is s (by omega) k (by omega), Option.bind_some]
  simp only []
  by_cases h0 : (scanL [] .out (bs s)).2 = 0
  · rw [if_pos h0, if_pos h0, addrOf_is _ (by omega) (by omega) k (by omega), Option.bind_some]
  · rw [if_neg h0, if_neg h0]
    rfl
def strictL (s : ByteArray) : Res := if (parseL s).2.2 = 0 then (if fold (bs s) = fold (textL (bs (parseL s).1) (bs (parseL s).2.1)) then parseL s else noAddr) else parseL s
theorem addrStrict_is (s : ByteArray) (hs : s.size ≤ 50000) (k : Nat) (hk : 1000000 ≤ k) : addr_Strict.f k s = some (strictL s) := by
  have h := parseL_size s
  unfold addr_Strict.f strictL
  rw [addrParse_is s hs k hk, Option.bind_some]
  by_cases h0 : (parseL s).2.2 = 0
  · rw [if_pos h0, if_pos h0, glyphFold_is s (by omega), Option.bind_some, addrKey_is _ _ (by omega) (by omega) k (by omega), Option.bind_some, toList_str, toList_str]
    split <;> rfl
  · rw [if_neg h0, if_neg h0]
end Go.Proofs.YtlomcmdbbnbciaaDoor.Pl
-- written by xprint.py of this session over the kit's printer; not trusted: Lean checks it
namespace Go.Proofs.YtlomcmdbbnbciaaDoor.Fn
open Go.RowKit Go.Proofs.YtlomcmdbbnbciaaDoorW.PrintWords Go.Proofs.YtlomcmdbbnbciaaDoorW.PrintLast Go.Proofs.YtlomcmdbbnbciaaDoorW.PrintMore
attribute [local go_sem] max2_int min2_int max_two min_two max_three min_three max_four min_four   -- for this text's walks alone
set_option linter.unusedVariables false
set_option linter.unusedSimpArgs false

/-! ### bulletinlaw13_To: function 24 -/
def bulletinlaw13_To.f (a0_0 : ByteArray) (a0_1 : ByteArray) : Option (ByteArray × ByteArray) := some (a0_0, a0_1)
end Go.Proofs.YtlomcmdbbnbciaaDoor.Fn
-- written by xprint.py of this session over the kit's printer; not trusted: Lean checks it
namespace Go.Proofs.YtlomcmdbbnbciaaDoor.Fn
open Go.RowKit Go.Proofs.YtlomcmdbbnbciaaDoorW.PrintWords Go.Proofs.YtlomcmdbbnbciaaDoorW.PrintLast Go.Proofs.YtlomcmdbbnbciaaDoorW.PrintMore
attribute [local go_sem] max2_int min2_int max_two min_two max_three min_three max_four min_four   -- for this text's walks alone
set_option linter.unusedVariables false
set_option linter.unusedSimpArgs false

/-! ### bulletinlaw13_AddrKeys: function 4 -/
mutual
def bulletinlaw13_AddrKeys.j0 : Nat → Bool → ByteArray → ByteArray → ByteArray → ByteArray → Option (Bool)
 | 0, _, _, _, _, _ => none
 | k + 1, x30, x336000, x336001, x337000, x337001 => if x30 = true then (some true) else ((bulletinlaw13_To.f x336000 x336001).bind fun bt338 => ((bulletinlaw13_To.f x337000 x337001).bind fun bt340 => ((addr_Addr_Right.f k bt338.1 bt338.2).bind fun t344 => (if t344 = true then ((addr_Addr_Right.f k bt340.1 bt340.2).bind fun t345 => (bulletinlaw13_AddrKeys.j1 k (!t345) bt338.1 bt338.2 bt340.1 bt340.2)) else (bulletinlaw13_AddrKeys.j1 k true bt338.1 bt338.2 bt340.1 bt340.2)))))
def bulletinlaw13_AddrKeys.j1 : Nat → Bool → ByteArray → ByteArray → ByteArray → ByteArray → Option (Bool)
 | 0, _, _, _, _, _ => none
 | k + 1, x42, x343000, x343001, x344000, x344001 => if x42 = true then (some true) else ((addr_Addr_Key.f k x343000 x343001).bind fun t346 => ((addr_Addr_Key.f k x344000 x344001).bind fun t347 => (if x343001.toList = x344001.toList then ((glyph_Fold.f x343000).bind fun t348 => ((glyph_Fold.f x344000).bind fun t349 => (some ((t346.toList == t347.toList) == (t348.toList == t349.toList))))) else (some ((t346.toList == t347.toList) == false)))))
end
end Go.Proofs.YtlomcmdbbnbciaaDoor.Fn
set_option linter.unusedVariables false
namespace Go.Proofs.YtlomcmdbbnbciaaDoor.Pl
open Go.RowKit Go.Proofs.YtlomcmdbbnbciaaDoorW.PrintWords Go.Proofs.YtlomcmdbbnbciaaDoor.Fn

theorem right_parts {a b : ByteArray} (h : right a b = true) : domainL (bs b) = 0 ∧ bs a ≠ [] ∧ (bs a).all plainB = true ∧ fold (bs b) = bs b ∧ a.size ≤ 64 ∧ (textL (bs a) (bs b)).length ≤ 254 := by
  unfold right at h
  rw [Bool.and_eq_true, beq_iff_eq, decide_eq_true_eq] at h
  obtain ⟨h1, h2⟩ := h
  unfold why at h1
  by_cases c1 : domain b = 130 ∨ bs a = [] ∨ plain a = false
  · rw [if_pos c1] at h1; cases h1
  · rw [if_neg c1] at h1
    by_cases c2 : domain b ≠ 0 ∨ 64 < a.size ∨ 254 < (textL (bs a) (bs b)).length
    · rw [if_pos c2] at h1; cases h1
    · have c3 : domain b = 0 := by
        by_cases h : domain b = 0
        · exact h
        · exact absurd (.inl h) c2
      have c4 : plain a = true := by
        cases hp : plain a with
        | true => rfl
        | false => exact absurd (.inr (.inr hp)) c1
      refine ⟨by rw [← domain_L]; exact c3, fun h => c1 (.inr (.inl h)), by rw [← plain_L]; exact c4, h2.symm, ?_, ?_⟩
      · rcases Nat.lt_or_ge 64 a.size with q | q
        · exact absurd (.inr (.inl q)) c2
        · exact q
      · rcases Nat.lt_or_ge 254 (textL (bs a) (bs b)).length with q | q
        · exact absurd (.inr (.inr q)) c2
        · exact q
end Go.Proofs.YtlomcmdbbnbciaaDoor.Pl
set_option linter.unusedVariables false
set_option linter.unusedSimpArgs false
namespace Go.Proofs.YtlomcmdbbnbciaaDoor.Pl
open Go.RowKit Go.Proofs.YtlomcmdbbnbciaaDoorW.PrintWords Go.Proofs.YtlomcmdbbnbciaaDoor.Fn

/-! What is written is read again. -/
def stops (l : Bytes) : Prop := ∀ c r, l = c :: r → atomic c = false
theorem scan_atomic (w : Bytes) (acc : List Tok) (l : Bytes) (hl : stops l) : ∀ v : Bytes, v.all atomic = true → scanL acc (.atom w) (v ++ l) = scanL (acc ++ [(1, w ++ v)]) .out l
  | [], _ => by
    rw [List.nil_append, List.append_nil]
    cases l with
    | nil => rfl
    | cons c r =>
      rw [scanL_cons, scanL_cons]
      unfold step
      simp only []
      rw [hl c r rfl, if_neg (by decide)]
  | c :: v, hv => by
    simp only [List.all_cons, Bool.and_eq_true] at hv
    rw [List.cons_append, scanL_cons]
    unfold step
    simp only []
    rw [hv.1, if_pos rfl]
    simp only []
    rw [scan_atomic (w ++ [c]) acc l hl v hv.2]
    simp
theorem scan_word (acc : List Tok) (w l : Bytes) (hw : atomL w = true) (hl : stops l) : scanL acc .out (w ++ l) = scanL (acc ++ [(1, w)]) .out l := by
  unfold atomL at hw
  rw [Bool.and_eq_true] at hw
  cases w with
  | nil => simp at hw
  | cons c v =>
    have hv := hw.1
    simp only [List.all_cons, Bool.and_eq_true] at hv
    rw [List.cons_append, scanL_cons]
    have hs : step acc .out c (v ++ l) = .inl (acc, .atom [c], v ++ l) := by
      unfold step stepOut
      simp only []
      rw [fold_not (atomic_apart c hv.1).1, hv.1, if_neg (by decide), if_pos rfl]
    rw [hs]
    simp only []
    rw [scan_atomic [c] acc l hl v hv.2]
    rfl
theorem scan_sign (acc : List Tok) (c : UInt8) (l : Bytes) (hc : c = 46 ∨ c = 64) : scanL acc .out (c :: l) = scanL (acc ++ [(3, [c])]) .out l := by
  have h : c ≠ 13 ∧ atomic c = false ∧ c ≠ 34 ∧ c ≠ 40 ∧ signB c = true := by rcases hc with rfl | rfl <;> decide +kernel
  rw [scanL_cons]
  have hs : step acc .out c l = .inl (acc ++ [(3, [c])], .out, l) := by
    unfold step stepOut
    simp only []
    rw [fold_not h.1, h.2.1, h.2.2.2.2, if_neg (by decide), if_neg (by decide), if_neg h.2.2.1, if_neg h.2.2.2.1, if_pos rfl]
  rw [hs]
theorem stops_sign (c : UInt8) (l : Bytes) (hc : c = 46 ∨ c = 64) : stops (c :: l) := by
  intro d r e
  obtain ⟨rfl, rfl⟩ := List.cons.inj e
  rcases hc with rfl | rfl <;> decide +kernel
theorem stops_nil : stops [] := fun c r e => by cases e
def toks : List Bytes → List Tok
  | [] => []
  | [p] => [(1, p)]
  | p :: q :: r => (1, p) :: (3, [46]) :: toks (q :: r)
def dotJoin : List Bytes → Bytes
  | [] => []
  | [p] => p
  | p :: q :: r => p ++ 46 :: dotJoin (q :: r)
theorem dotJoin_split : ∀ l : Bytes, dotJoin (splitL 46 l) = l
  | [] => rfl
  | c :: l => by
    have ih := dotJoin_split l
    have hne := splitL_ne 46 l
    rw [splitL]
    by_cases h : c = 46
    · rw [if_pos h]
      cases hs : splitL 46 l with
      | nil => exact absurd hs hne
      | cons p r => rw [hs] at ih; rw [dotJoin, ih, h]; rfl
    · rw [if_neg h]
      cases hs : splitL 46 l with
      | nil => exact absurd hs hne
      | cons p r =>
        rw [hs] at ih
        simp only []
        cases r with
        | nil => rw [dotJoin] at ih ⊢; rw [ih]
        | cons q r => rw [dotJoin] at ih ⊢; rw [← ih]; rfl
theorem scan_dots (acc : List Tok) (l : Bytes) (hl : stops l) : ∀ ps : List Bytes, ps ≠ [] → ps.all atomL = true → scanL acc .out (dotJoin ps ++ l) = scanL (acc ++ toks ps) .out l
  | [], h, _ => absurd rfl h
  | [p], _, h => by
    simp only [List.all_cons, List.all_nil, Bool.and_true] at h
    rw [dotJoin, toks, scan_word acc p l h hl]
  | p :: q :: r, _, h => by
    simp only [List.all_cons, Bool.and_eq_true] at h
    rw [dotJoin, List.append_assoc, List.cons_append, scan_word acc p _ h.1 (stops_sign 46 _ (.inl rfl)), scan_sign _ 46 _ (.inl rfl), scan_dots _ l hl (q :: r) (by simp) (by simp only [List.all_cons, Bool.and_eq_true]; exact h.2), toks]
    simp
theorem toks_alt (p : Tok → Bool) (hp : ∀ w, p (1, w) = true) : ∀ ps : List Bytes, ps ≠ [] → altOk p (toks ps) = true
  | [], h => absurd rfl h
  | [w], _ => hp w
  | w :: q :: r, _ => by
    have ih := toks_alt p hp (q :: r) (by simp)
    rw [toks, altOk, hp, ih]
    · rfl
theorem toks_cat : ∀ ps : List Bytes, cat (toks ps) = dotJoin ps
  | [] => rfl
  | [p] => by simp [toks, cat, dotJoin]
  | p :: q :: r => by
    have ih := toks_cat (q :: r)
    rw [toks, dotJoin, ← ih]
    simp [cat]
theorem scan_quoted (acc : List Tok) (l : Bytes) : ∀ (a w : Bytes), a.all plainB = true → scanL acc (.quot w false) (a.flatMap qB ++ 34 :: l) = scanL (acc ++ [(2, w ++ a)]) .out l
  | [], w, _ => by
    rw [List.flatMap_nil, List.nil_append, scanL_cons, List.append_nil]
    unfold step
    simp only []
    rw [fold_not (by decide), if_neg (by decide), if_neg (by decide), text_34, if_pos rfl, if_pos trivial]
  | c :: a, w, h => by
    simp only [List.all_cons, Bool.and_eq_true] at h
    have ht := plain_text c h.1
    have h13 : c ≠ 13 := fun e => by rw [e] at h; exact absurd h.1 (by decide)
    have ih := scan_quoted acc l a (w ++ [c]) h.2
    rw [List.flatMap_cons, List.append_assoc]
    by_cases hc : c = 34 ∨ c = 92
    · rw [show qB c = [92, c] by unfold qB; rw [if_pos hc], List.cons_append, scanL_cons]
      have hs : step acc (.quot w false) 92 ([c] ++ (a.flatMap qB ++ 34 :: l)) = .inl (acc, .quot w true, [c] ++ (a.flatMap qB ++ 34 :: l)) := by
        unfold step
        simp only []
        rw [fold_not (by decide), if_neg (by decide), if_pos trivial]
      rw [hs]
      simp only []
      rw [List.cons_append, List.nil_append, scanL_cons]
      have hs2 : step acc (.quot w true) c (a.flatMap qB ++ 34 :: l) = .inl (acc, .quot (w ++ [c]) false, a.flatMap qB ++ 34 :: l) := by
        unfold step
        simp only []
        rw [ht, if_pos rfl]
      rw [hs2]
      simp only []
      rw [ih]
      simp
    · have h34 : c ≠ 34 := fun e => hc (.inl e)
      have h92 : c ≠ 92 := fun e => hc (.inr e)
      rw [show qB c = [c] by unfold qB; rw [if_neg hc, if_pos ht], List.cons_append, List.nil_append, scanL_cons]
      have hs : step acc (.quot w false) c (a.flatMap qB ++ 34 :: l) = .inl (acc, .quot (w ++ [c]) false, a.flatMap qB ++ 34 :: l) := by
        unfold step
        simp only []
        rw [fold_not h13, if_neg (by decide), if_neg h92, ht, if_pos rfl, if_neg h34]
      rw [hs]
      simp only []
      rw [ih]
      simp
def localToks (a : Bytes) : List Tok := if dottedL a = true then toks (splitL 46 a) else [(2, a)]
theorem scan_local (a l : Bytes) (ha : a.all plainB = true) (hl : stops l) : scanL [] .out (localL a ++ l) = scanL (localToks a) .out l := by
  unfold localL localToks
  by_cases hd : dottedL a = true
  · rw [if_pos hd, if_pos hd]
    have := scan_dots [] l hl (splitL 46 a) (splitL_ne _ _) hd
    rw [dotJoin_split] at this
    simpa using this
  · rw [if_neg hd, if_neg hd]
    unfold quote
    rw [List.cons_append, List.append_assoc, scanL_cons]
    have hs : step [] .out 34 (a.flatMap qB ++ ([34] ++ l)) = .inl ([], .quot [] false, a.flatMap qB ++ ([34] ++ l)) := by
      unfold step stepOut
      simp only []
      rw [fold_not (by decide), show atomic 34 = false by decide +kernel, if_neg (by decide), if_neg (by decide), if_pos trivial]
    rw [hs]
    simp only []
    exact scan_quoted [] l a [] ha
theorem localToks_alt (a : Bytes) : altOk wordT (localToks a) = true := by
  unfold localToks
  split
  · exact toks_alt wordT (fun _ => rfl) _ (splitL_ne _ _)
  · rfl
theorem localToks_cat (a : Bytes) : cat (localToks a) = a := by
  unfold localToks
  split
  · rw [toks_cat, dotJoin_split]
  · simp [cat]
set_option maxRecDepth 100000 in
theorem labelled_atomic (c : UInt8) : labelled c = true → atomic c = true := forall_byte (p := fun c => labelled c = true → atomic c = true) (by decide +kernel) c
theorem label_atom {w : Bytes} (h : labelL w = true) : atomL w = true := by
  unfold atomL
  have hall : w.all atomic = true := by
    rw [List.all_eq_true]
    intro c hc
    exact labelled_atomic c (labelL_bytes h hc)
  rw [hall]
  cases w with
  | nil => simp [labelL] at h
  | cons c r => rfl
theorem domain_dotted {b : Bytes} (h : domainL b = 0) : (splitL 46 b).all atomL = true := by
  unfold domainL at h
  by_cases ha : (splitL 46 b).all labelL = true
  · rw [List.all_eq_true] at ha ⊢
    exact fun w hw => label_atom (ha w hw)
  · rw [if_neg ha] at h; cases h
theorem parse_text {a b : ByteArray} (h : right a b = true) : parseL (str (textL (bs a) (bs b))) = (a, b, 0) := by
  obtain ⟨d1, n1, p1, f1, s1, s2⟩ := right_parts h
  have hw : why a b = 0 := by
    unfold right at h
    rw [Bool.and_eq_true, decide_eq_true_eq] at h
    exact h.1
  have hdom := scan_dots (localToks (bs a) ++ [(3, [64])]) [] stops_nil (splitL 46 (bs b)) (splitL_ne _ _) (domain_dotted d1)
  rw [dotJoin_split, List.append_nil] at hdom
  have hscan : scanL [] .out (textL (bs a) (bs b)) = (localToks (bs a) ++ (3, [64]) :: toks (splitL 46 (bs b)), 0) := by
    unfold textL
    rw [scan_local (bs a) _ p1 (stops_sign 64 _ (.inr rfl)), scan_sign _ 64 _ (.inr rfl), hdom]
    simp [scanL_nil, endOf]
  unfold parseL
  rw [bs_str, hscan, if_pos rfl]
  simp only []
  unfold ofT
  rw [atSplit_of (t := (3, [64])) rfl (no64 (fun t ht => by unfold wordT at ht; simpa using ht) (localToks_alt (bs a)))]
  simp only []
  rw [if_pos ⟨localToks_alt _, toks_alt atomT (fun _ => rfl) _ (splitL_ne _ _)⟩, localToks_cat, toks_cat, dotJoin_split]
  unfold finish
  rw [f1, str_bs, str_bs, if_pos hw]
theorem finish_right {x y : Bytes} (h : (finish x y).2.2 = 0) : right (finish x y).1 (finish x y).2.1 = true := by
  unfold finish at h ⊢
  by_cases hw : why (str x) (str (fold y)) = 0
  · rw [if_pos hw]
    unfold right
    simp only []
    rw [hw, bs_str, fold_idem]
    simp
  · rw [if_neg hw] at h
    exact absurd h hw
theorem parse_right {s : ByteArray} (h : (parseL s).2.2 = 0) : right (parseL s).1 (parseL s).2.1 = true := by
  unfold parseL at h ⊢
  by_cases h0 : (scanL [] .out (bs s)).2 = 0
  · rw [if_pos h0] at h ⊢
    unfold ofT at h ⊢
    cases hs : atSplit (scanL [] .out (bs s)).1 with
    | none => rw [hs] at h; simp [noAddr] at h
    | some x =>
      obtain ⟨A, B⟩ := x
      rw [hs] at h
      simp only [] at h ⊢
      by_cases ho : altOk wordT A = true ∧ altOk atomT B = true
      · rw [if_pos ho] at h ⊢
        exact finish_right h
      · rw [if_neg ho] at h
        simp [noAddr] at h
  · rw [if_neg h0] at h
    simp [noAddr] at h
theorem parse_none {s : ByteArray} (h : (parseL s).2.2 ≠ 0) : (parseL s).1 = str [] ∧ (parseL s).2.1 = str [] := by
  unfold parseL at h ⊢
  by_cases h0 : (scanL [] .out (bs s)).2 = 0
  · rw [if_pos h0] at h ⊢
    unfold ofT at h ⊢
    cases hs : atSplit (scanL [] .out (bs s)).1 with
    | none => exact ⟨rfl, rfl⟩
    | some x =>
      obtain ⟨A, B⟩ := x
      rw [hs] at h
      simp only [] at h ⊢
      by_cases ho : altOk wordT A = true ∧ altOk atomT B = true
      · rw [if_pos ho] at h ⊢
        unfold finish at h ⊢
        by_cases hw : why (str (cat A)) (str (fold (cat B))) = 0
        · rw [if_pos hw] at h
          exact absurd rfl h
        · rw [if_neg hw]
          exact ⟨rfl, rfl⟩
      · rw [if_neg ho]
        exact ⟨rfl, rfl⟩
  · rw [if_neg h0]
    exact ⟨rfl, rfl⟩
end Go.Proofs.YtlomcmdbbnbciaaDoor.Pl
set_option linter.unusedVariables false
namespace Go.Proofs.YtlomcmdbbnbciaaDoor.Pl
open Go.RowKit Go.Proofs.YtlomcmdbbnbciaaDoorW.PrintWords Go.Proofs.YtlomcmdbbnbciaaDoor.Fn

theorem AddrRight (s : ByteArray) : ∃ k, bulletinlaw13_AddrRight.f k s = some true := by
  refine ⟨1000000, ?_⟩
  generalize hk : (1000000 : Nat) = k
  have hw := works13 k (by omega)
  unfold bulletinlaw13_AddrRight.f
  rw [hw, Option.bind_some, if_pos rfl]
  by_cases h1 : (s.size : Int) > 1000
  · rw [if_pos h1]
  have hz := parseL_size s
  rw [if_neg h1, addrParse_is s (by omega) k (by omega), Option.bind_some, addrStrict_is s (by omega) k (by omega), Option.bind_some]
  by_cases h0 : (parseL s).2.2 = 0
  · have hr := parse_right h0
    have hp := parse_text hr
    have hlen := textL_length (bs (parseL s).1) (bs (parseL s).2.1)
    rw [bs_length, bs_length] at hlen
    rw [if_pos h0, addrText_is _ _ (by omega) (by omega) k (by omega), Option.bind_some, addrParse_is _ (by rw [str_size]; omega) k (by omega), Option.bind_some, addrRight_is _ _ (by omega) (by omega) k (by omega), Option.bind_some, hr, if_pos rfl, hp, if_pos rfl, if_pos (by simp)]
    by_cases h2 : (strictL s).2.2 = 0
    · rw [if_pos h2]
      have e : strictL s = parseL s := by
        unfold strictL at h2 ⊢
        rw [if_pos h0] at h2 ⊢
        by_cases h3 : fold (bs s) = fold (textL (bs (parseL s).1) (bs (parseL s).2.1))
        · rw [if_pos h3]
        · rw [if_neg h3] at h2
          simp [noAddr] at h2
      rw [e]
      simp
    · rw [if_neg h2]
  · have e : strictL s = parseL s := by
      unfold strictL
      rw [if_neg h0]
    obtain ⟨n1, n2⟩ := parse_none h0
    rw [if_neg h0, e, if_pos rfl, n1, n2, toList_str, if_pos (by simp)]
    simp
end Go.Proofs.YtlomcmdbbnbciaaDoor.Pl
set_option linter.unusedVariables false
namespace Go.Proofs.YtlomcmdbbnbciaaDoor
open Go.ChangeShapes Go.WideShapes Go.ChangeAt Go.RowKit

/-! What all rows of this seat share: a world that meets the condition; the premises as the walks want them. -/
theorem own : ownKnob Tryd.prog.godebug = none := by kernel_rfl
theorem laidOut : laidOutB Tryd.prog = true := by kernel_rfl
def listed : List (String × DataW Unit) := [("unicode/utf8.acceptRanges", Rows.laid_unicode_utf8_acceptRanges), ("unicode/utf8.first", Rows.laid_unicode_utf8_first)]
noncomputable def laidWorld (os : Os) : World :=
  let w0 := World.holding Tryd.prog os ⟨#[], #[], []⟩
  let put (h : Array Obj) (g : Nat) (cs : Array Value) : Array Obj := h.modify g fun
    | .cells _ t frozen => .cells cs t frozen
    | o => o
  let h1 := put w0.heap 0 (Lib.firstTab.map fun z => Value.int .u8 z).toArray
  let h2 := put h1 1 ((List.range 16).flatMap fun i => [Value.int .u8 (Lib.accLo i), Value.int .u8 (Lib.accHi i)]).toArray
  { w0 with heap := h2 }
set_option maxRecDepth 100000 in
theorem laid_met (os : Os) (args : Array Value) : laidMetH Tryd.prog listed ((laidWorld os).forCall (fun _ _ => 0) ⟨#[], args, []⟩).memory :=
  laidMetH_of_parts (laidMet_of_run' 8 (by kernel_rfl) (by kernel_rfl)) (by kernel_rfl)

theorem lift_both {H : Type} {enc : TypeId × Value → H} {a : Assume} {C : Checked} {os : Os} {f : FuncId} {fn : Func} {s : ChangeSpec} {conds : List PathCond} {apart fresh handsOn again : Bool} {X : World → Array Value → Prop}
    (hX : ∀ (w w' : World) (args : Array Value), w.heap = w'.heap → X w args → X w' args)
    (own : ownKnob C.prog.godebug = none) (started : os.Started) (noInit : C.prog.inits.idxOf? f = none) (hfn : C.prog.funcs[f]? = some fn)
    (witness : ∃ (w : World) (tape : Tape) (i : Input), w.os = os ∧ (w.forCall tape i).Shaped C.prog ∧ i.vars = [] ∧ Input.okWide C.prog (w.forCall tape i) .any w.heap.size f i ∧
      ((s.pre enc C.prog fn conds apart (w.forCall tape i).memory i.args ∧ X (w.forCall tape i).memory i.args) ∧ sizedMet enc C.prog fn (OpenSpec.ofChange s) apart (w.forCall tape i).memory i.args) ∧ a.holds C.prog (lone (Frame.enter C.prog f i.args .normal) [] (w.forCall tape i)))
    (contract : ∀ (W : World) (base : Nat) (args : Array Value) (ds gs : List (DataW H)) (before : List MemPlace),
      (∀ (j : Nat) t v, fn.params[j]? = some t → args[j]? = some v → Value.okWide C.prog W .any base t v) →
      DataW.Whole enc C.prog fn.params.toList s.vars apart W args.toList ds gs before →
      (DataW.weightsEach C.prog (fn.params.toList ++ s.plain.varTypes C.prog) (ds ++ gs)).all (· ≤ reachBytes) = true → X W args → W.ShapedOpen C.prog →
      Calls C.prog f args W fun e W' => ∃ v, e = .returned v ∧ s.post enc C.prog fn apart fresh handsOn again W args v W') :
    ReturnsInHanded a C os f .any (fun w args => (s.pre enc C.prog fn conds apart w args ∧ X w args) ∧ sizedMet enc C.prog fn (OpenSpec.ofChange s) apart w args) (s.post enc C.prog fn apart fresh handsOn again) := by
  refine returnsInHanded_of_calls own started noInit witness ?_
  intro w tape i _ hsh _ hok hpre _
  obtain ⟨_, _, _, fn', hfn', _, _, _, _, hval⟩ := hok
  have e : fn' = fn := Option.some.inj (hfn'.symm.trans hfn)
  subst e
  obtain ⟨⟨⟨ds, gs, before, hw, _⟩, hx⟩, hz⟩ := hpre
  have hw' := DataW.Whole.of_heap (w' := w.forCall tape i) (by rfl) hw
  refine (contract (w.forCall tape i) w.heap.size i.args ds gs before hval hw' (hz.weights hw) (hX _ _ _ (by rfl) hx) hsh).mono fun e W' ⟨v, he, hp⟩ => ?_
  subst he
  exact ChangeSpec.post_blind hp
end Go.Proofs.YtlomcmdbbnbciaaDoor
-- the row of the law AddrRight, out of its pure statement and its walk
namespace Go.Proofs.YtlomcmdbbnbciaaDoor.addrRight
open Go.ChangeShapes Go.WideShapes Go.ChangeAt Go.RowKit Go.Joins
open Go.ChangeMaps (open_string shut_string)
set_option maxRecDepth 100000 in
theorem lifted (os : Os) (started : os.Started) (H : Type) (enc : TypeId × Value → H) :
    ReturnsInHanded {} Tryd.checked os 8 .any (fun w args => (Rows.addrRightSpec.pre enc Tryd.prog Tryd.f8 [] false w args ∧ laidMetH Tryd.prog listed w) ∧ sizedMet enc Tryd.prog Tryd.f8 (OpenSpec.ofChange Rows.addrRightSpec) false w args) (Rows.addrRightSpec.post enc Tryd.prog Tryd.f8 false true false false) := by
  refine lift_both (C := Tryd.checked) (X := fun w _ => laidMetH Tryd.prog listed w) (fun _ _ _ hh h => h.of_heap hh) own started (by kernel_rfl) Tryd.func8
    (ChangeSpec.witness_at (enc := enc) (C := Tryd.checked) (os := os) (X := fun w _ => laidMetH Tryd.prog listed w) false (laidWorld os) #[.string ByteArray.empty] 8 rfl (by kernel_rfl) (by kernel_rfl) (by kernel_rfl) (by kernel_rfl) (by kernel_rfl) (laid_met os _)) ?_
  intro W base args ds gs before hval0 hW _ hL hSh
  have hval : ∀ (j : Nat) t v, Tryd.f8.params[j]? = some t → args[j]? = some v → Value.okWide Tryd.prog W .any base t v := hval0
  have hW' := hW
  obtain ⟨p, q, hA0, hV, rfl, _, _⟩ := hW
  have hA : DataW.TrodAll enc Tryd.prog W 0 (fun _ => true) true Tryd.f8.params.toList args.toList ds p := hA0
  rw [Tryd.params8] at hA hval
  obtain ⟨v0, vs0, d0, ds0, p0, q0, hargs, rfl, rfl, h0, r0⟩ := trodAll_cons hA
  obtain ⟨rfl, rfl, rfl⟩ := trodAll_nil r0
  obtain rfl : args = #[v0] := by cases args; simp_all
  obtain ⟨rfl, rfl⟩ := trodVars_none hV
  have k0 := h0
  have lt0 : ∀ x ∈ p0, x.block < W.heap.size := by obtain ⟨m, hm⟩ := k0; exact DataW.trod_lt m _ _ _ hm
  obtain ⟨a0, rfl, _, _, _⟩ := open_string Tryd.underlying9 (hval 0 9 v0 rfl rfl) h0
  obtain ⟨k, hk⟩ := Pl.AddrRight a0
  refine (Fn.bulletinlaw13_AddrRight.calls k a0 true W hk).mono ?_
  rintro e W' ⟨rfl, bel⟩
  exact ⟨_, rfl, _, _, _, [], _, [], hW', trodAll_mk1 (shut_bool Tryd.underlying4 _), (trodAll_cons_mk (Below.trod laidOut (by kernel_rfl) (of_decide_eq_true (by kernel_rfl)) k0 bel lt0) trodAll_mk0), rfl, bel.frame _, fun h => by cases h⟩
theorem over : Rows.addrRightRow.holds Tryd.pinned (OpenSpec.ofChange Rows.addrRightSpec) :=
  OpenClaim.holds_of_wide 8 Tryd.f8 rfl rfl rfl rfl rfl rfl rfl ⟨rfl, rfl, rfl, rfl, rfl⟩ rfl rfl rfl rfl rfl (by kernel_rfl) Tryd.func8 (by kernel_rfl)
    (of_decide_eq_true (by kernel_rfl)) (by unfold Func.isWrapper; first | (rw [if_pos (by decide +kernel)]; kernel_rfl) | (rw [if_neg (by decide +kernel)]; exact ⟨rfl, rfl⟩))
    (fun os started H enc _ => lifted os started H enc)
theorem proved : Rows.AddrRightSaid := over
#print axioms proved
theorem card : Rows.AddrRightCardSaid :=
  Claim7.holds_tied_plain_at .later [] [.data, .pinned] true (true, "a3f6bcdc9cb347ffdc7221f102fbc562a39496553b45ea8bedd4c5b8b6bf59b8") false
    proved (fun _ h => by cases h) (by kernel_rfl) (fun _ h => by cases h) addrRight_row_tie rfl ⟨rfl, rfl⟩ (by kernel_rfl) rfl
    (fun f fn hf hfn => by
      obtain rfl : f = 8 := Option.some.inj ((show Tryd.prog.funcNamed "bulletin/bulletinlaw13.AddrRight" = some 8 by kernel_rfl).symm.trans hf) |>.symm
      obtain rfl : fn = Tryd.f8 := (Option.some.inj (Tryd.func8.symm.trans hfn)).symm
      exact ⟨by kernel_rfl, fun j t ht => by
        rw [Tryd.params8] at ht
        have hall : ([9] : List TypeId).all (fun t => !(Tryd.prog.wantsStandIn t)) = true := by kernel_rfl
        have hm : t ∈ ([9] : List TypeId) := by simpa using Array.mem_of_getElem? ht
        have h2 : Tryd.prog.wantsStandIn t = false := by simpa using List.all_eq_true.1 hall t hm
        exact h2⟩)
    (by kernel_rfl)
#print axioms card
end Go.Proofs.YtlomcmdbbnbciaaDoor.addrRight
namespace Go.Proofs.YtlomcmdbbnbciaaDoor
theorem addrRight_holds : Rows.AddrRightCardSaid := addrRight.card
end Go.Proofs.YtlomcmdbbnbciaaDoor
