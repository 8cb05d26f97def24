/- A part of the proof of this sentence: The law bulletinlaw28.PathBack returns true for every input: a right address is read of what is shown of it, as where a mail comes from, with any size of up to nine digits, and as where it goes; the tables of unicode/utf8 are as the program's text lays them. -/
import Derived.Test.YtgaaogijfikfeaaDoorCPathBack2
import Derived.Maps.AppendAt
import Derived.OwnWalkIn
-- written by xprint.py of this session over the kit's printer; not trusted: Lean checks it
namespace Go.Proofs.YtgaaogijfikfeaaDoor.Fn
open Go.RowKit Go.Proofs.YtgaaogijfikfeaaDoorW.PrintWords Go.Proofs.YtgaaogijfikfeaaDoorW.PrintLast Go.Proofs.YtgaaogijfikfeaaDoorW.PrintMore
attribute [local go_sem] max2_int min2_int max_two min_two max_three min_three max_four min_four   -- for this text's walks alone
set_option linter.unusedVariables false
set_option linter.unusedSimpArgs false

/-! ### path_options: function 102 -/
def path_options.l0 : Nat → Bool → Bool → List ByteArray → Int → Int → ByteArray → ByteArray → Bool → Int → Option (ByteArray × ByteArray × Bool × Int × Int)
 | 0, _, _, _, _, _, _, _, _, _ => none
 | k + 1, x6, x7, x14, x15, x16, x236000, x236001, x236002, x236003 => if x16 < x15 then (if 0 ≤ x16 then (if x16 < (x14.length : Int) then ((strings_Cut.f (rdOf ByteArray.empty x14 x16) (⟨#[61]⟩ : ByteArray)).bind fun bt238 => ((glyph_Fold.f bt238.1).bind fun t241 => (if t241.toList = ([115, 105, 122, 101] : List UInt8) then ((path_number.f k bt238.2.1).bind fun t242 => (if x6 = true then (some ((⟨#[]⟩ : ByteArray), (⟨#[]⟩ : ByteArray), false, 0, 7)) else (if t242 < 0 then (some ((⟨#[]⟩ : ByteArray), (⟨#[]⟩ : ByteArray), false, 0, 3)) else (path_options.l0 k true x7 x14 x15 (wrap64 (x16 + 1)) x236000 x236001 x236002 t242)))) else (if t241.toList = ([98, 111, 100, 121] : List UInt8) then ((glyph_Fold.f bt238.2.1).bind fun t243 => (if x7 = true then (some ((⟨#[]⟩ : ByteArray), (⟨#[]⟩ : ByteArray), false, 0, 7)) else (if t243.toList = ([55, 98, 105, 116] : List UInt8) then (path_options.l0 k x6 true x14 x15 (wrap64 (x16 + 1)) x236000 x236001 x236002 x236003) else (if t243.toList = ([56, 98, 105, 116, 109, 105, 109, 101] : List UInt8) then (path_options.l0 k x6 true x14 x15 (wrap64 (x16 + 1)) x236000 x236001 x236002 x236003) else (some ((⟨#[]⟩ : ByteArray), (⟨#[]⟩ : ByteArray), false, 0, 3)))))) else (some ((⟨#[]⟩ : ByteArray), (⟨#[]⟩ : ByteArray), false, 0, 1)))))) else (none)) else (none)) else (some (x236000, x236001, x236002, x236003, 0))
def path_options.f (k : Nat) (a0_0 : ByteArray) (a0_1 : ByteArray) (a0_2 : Bool) (a0_3 : Int) (l1 : List ByteArray) : Option (ByteArray × ByteArray × Bool × Int × Int) := path_options.l0 k false false l1 (l1.length : Int) 0 a0_0 a0_1 a0_2 a0_3
theorem path_options.mono_l : ∀ k, (∀ y0 y1 y2 y3 y4 y5 y6 y7 y8, LeO (path_options.l0 k y0 y1 y2 y3 y4 y5 y6 y7 y8) (path_options.l0 (k + 1) y0 y1 y2 y3 y4 y5 y6 y7 y8))
 | 0 => fun _ _ _ _ _ _ _ _ _ r h => by simp [path_options.l0] at h
 | k + 1 => by
  have ih0 := path_options.mono_l k
  ·intro y0 y1 y2 y3 y4 y5 y6 y7 y8
   unfold path_options.l0
   repeat' first
   | (with_reducible exact ih0 _ _ _ _ _ _ _ _ _)
   | (with_reducible exact path_number.mono _ _)
   | (with_reducible exact LeO.refl _)
   | (with_reducible exact LeO.none _)
   | (with_reducible refine LeO.ite ?_ ?_)
   | (with_reducible refine LeO.bind ?_ (fun _ => ?_))
   | exact ih0 _ _ _ _ _ _ _ _ _
   | exact path_number.mono _ _
   | exact LeO.none _
   | refine LeO.ite ?_ ?_
   | refine LeO.bind ?_ (fun _ => ?_)
theorem path_options.mono : ∀ a0 a1 a2 a3 a4 k, LeO (path_options.f k a0 a1 a2 a3 a4) (path_options.f (k + 1) a0 a1 a2 a3 a4) := by
 intro a0 a1 a2 a3 a4 k
 have ih0 := path_options.mono_l k
 unfold path_options.f
 repeat' first
   | (with_reducible exact ih0 _ _ _ _ _ _ _ _ _)
   | (with_reducible exact path_number.mono _ _)
   | (with_reducible exact LeO.refl _)
   | (with_reducible exact LeO.none _)
   | (with_reducible refine LeO.ite ?_ ?_)
   | (with_reducible refine LeO.bind ?_ (fun _ => ?_))
   | exact ih0 _ _ _ _ _ _ _ _ _
   | exact path_number.mono _ _
   | exact LeO.none _
   | refine LeO.ite ?_ ?_
   | refine LeO.bind ?_ (fun _ => ?_)
set_option maxHeartbeats 8000000 in
set_option maxRecDepth 100000 in
theorem path_options.calls (k : Nat) (a0_0 : ByteArray) (a0_1 : ByteArray) (a0_2 : Bool) (a0_3 : Int) (A1 : Option Addr) (c1 : Nat) (l1 : List ByteArray) (r1 : ByteArray) (r2 : ByteArray) (r3 : Bool) (r4 : Int) (r5 : Int) (w : World) (hG : Glob w) (hr1 : Kd.C Kd.string w A1 l1.length l1) (hc1 : l1.length ≤ c1) (h : path_options.f k a0_0 a0_1 a0_2 a0_3 l1 = some (r1, r2, r3, r4, r5)) :
  Calls Tryd.prog 102 #[.agg #[.string a0_0, .string a0_1, .bool a0_2, .int .i64 a0_3], .slice A1 l1.length c1] w fun e w' => e = .returned (.tuple #[.agg #[.string r1, .string r2, .bool r3, .int .i64 r4], .int .i64 r5]) ∧ Below w.heap.size w w' := by
 have hu77 := Tryd.underlying77
 have HR1 := Aside0.mk hr1
 have HC1 := Aside0.mk hc1
 clear hr1 hc1
 have HB := Aside0.mk (Below.refl w.heap.size w)
 have H : (path_options.l0 k false false l1 (l1.length : Int) 0 a0_0 a0_1 a0_2 a0_3) = some (r1, r2, r3, r4, r5) := h
 clear h
 have H' := Aside0.mk H
 clear H
 go_enter Tryd.func102, Tryd.ntmps102
 go_wp2_with (first | ((with_reducible refine gate_dst (N := 2) rfl ?_); refine box_event ?hg (N := 2) ?hd (cs := #[.string a0_0, .string a0_1, .bool a0_2, .int .i64 a0_3]) (t := 77) ?hr ?_; (case hd => rfl); (case hg => rfl); (case hr => first | (go_simp; done) | (go_simp; rfl)); intro gb235 hg w3 hbox hb; have n0_ := Aside0.mk (below_step bw hb); have n1_ := Aside0.mk (hbox); have n2_ := Aside0.mk ((by rw [hg]; exact (below_size bw) : w.heap.size ≤ gb235)); have n3_ := Aside0.mk ((by rw [hg]; exact (below_size bw) : w.heap.size ≤ gb235)); clear HB; have HB := n0_; have BK235 := n1_; have GW235 := n2_; have GE235 := n3_; clear n0_ n1_ n2_ n3_; clear hb hbox hg) | ((with_reducible refine gate_dst (N := 4) rfl ?_); refine box_event ?hg (N := 4) ?hd (cs := #[.string (⟨#[]⟩ : ByteArray), .string (⟨#[]⟩ : ByteArray), .bool false, .int .i64 0]) (t := 77) ?hr ?_; (case hd => rfl); (case hg => rfl); (case hr => first | (go_simp; done) | (go_simp; rfl)); intro gb236 hg w4 hbox hb; have n0_ := Aside0.mk (blk_below (g := gb235) (o := .cells #[.string a0_0, .string a0_1, .bool a0_2, .int .i64 a0_3] 77 (0, 0)) bk hb); have n1_ := Aside0.mk (below_step bwS hb); have n2_ := Aside0.mk (hbox); have n3_ := Aside0.mk ((by rw [hg]; exact (below_size bwS) : w.heap.size ≤ gb236)); have n4_ := Aside0.mk ((by rw [hg]; exact (below_size bwS) : w.heap.size ≤ gb236)); have n5_ := Aside0.mk ((by rw [hg]; exact Nat.ne_of_lt (blk_lt (g := gb235) (o := .cells #[.string a0_0, .string a0_1, .bool a0_2, .int .i64 a0_3] 77 (0, 0)) bk) : gb235 ≠ gb236)); have n6_ := Aside0.mk ((by rw [hg]; exact Nat.ne_of_gt (blk_lt (g := gb235) (o := .cells #[.string a0_0, .string a0_1, .bool a0_2, .int .i64 a0_3] 77 (0, 0)) bk) : gb236 ≠ gb235)); clear BK235; clear HB; have BK235 := n0_; have HB := n1_; have BK236 := n2_; have GW236 := n3_; have GE236 := n4_; have NB235_236 := n5_; have NB236_235 := n6_; clear n0_ n1_ n2_ n3_ n4_ n5_ n6_; clear hb hbox hg))
 go_loopg [6, 7, 16] k (fun kq v6 v7 v16 w' => ∃ (x6_1 : Bool) (x7_1 : Bool) (x16_1 : Int) (x236003_1 : Int) (x237000_1 : ByteArray) (x237001_1 : ByteArray) (x237002_1 : Bool) (x237003_1 : Int), v6 = .bool x6_1 ∧ v7 = .bool x7_1 ∧ v16 = .int .i64 x16_1 ∧ Aside0 (path_options.l0 kq x6_1 x7_1 l1 (l1.length : Int) x16_1 a0_0 a0_1 a0_2 x236003_1 = some (r1, r2, r3, r4, r5)) ∧ Aside0 (kq ≤ k) ∧ Aside0 (w'.heap[gb235]? = some (.cells #[.string a0_0, .string a0_1, .bool a0_2, .int .i64 x236003_1] 77 (0, 0))) ∧ Aside0 (w'.heap[gb236]? = some (.cells #[.string x237000_1, .string x237001_1, .bool x237002_1, .int .i64 x237003_1] 77 (0, 0))) ∧ Aside0 (Below w.heap.size w w'))
 case atStart => exact ⟨(false), (false), (0), (a0_3), ((⟨#[]⟩ : ByteArray)), ((⟨#[]⟩ : ByteArray)), (false), (0), cl, cl, cl, H', ⟨Nat.le_refl _⟩, ⟨by (with_reducible repeat (first | refine blk_drewN ?_ _ | refine blk_drew ?_ | refine blk_alloc ?_ _)); exact BK235.out⟩, ⟨by (with_reducible repeat (first | refine blk_drewN ?_ _ | refine blk_drew ?_ | refine blk_alloc ?_ _)); exact BK236.out⟩, ⟨by repeat (first | (with_reducible first | exact HB.out | apply below_alloc | apply pw_below_drewN | apply below_drew1 | refine below_set ?_ GE235.out | refine below_set ?_ GE236.out) | exact HB.out)⟩⟩
 case round =>
  clear H'
  try clear c1
  try clear p2
  obtain ⟨x6_1, x7_1, x16_1, x236003_1, x237000_1, x237001_1, x237002_1, x237003_1, rfl, rfl, rfl, HA, HK1, BK235, BK236, HB⟩ := hrel
  cases gk with
  | zero => exact absurd HA.out (by simp [path_options.l0])
  | succ k1 =>
   have H := HA.out
   clear HA
   simp only [path_options.l0] at H
   by_cases c5 : x16_1 < (l1.length : Int)
   ·rw [if_pos c5] at H
    have c5b0 : decide (x16_1 < (l1.length : Int)) = true := decide_eq_true c5
    clear c5
    by_cases c6 : 0 ≤ x16_1
    ·rw [if_pos c6] at H
     have c6b0 : decide (0 ≤ x16_1) = true := decide_eq_true c6
     clear c6
     by_cases c7 : x16_1 < (l1.length : Int)
     ·rw [if_pos c7] at H
      have c7b0 : decide (x16_1 < (l1.length : Int)) = true := decide_eq_true c7
      clear c7
      replace H := Option.bind_eq_some_iff.mp H
      obtain ⟨⟨t238, t239, t240⟩, A80, H⟩ := H
      replace H : ((glyph_Fold.f t238).bind fun t241 => (if t241.toList = ([115, 105, 122, 101] : List UInt8) then ((path_number.f k1 t239).bind fun t242 => (if x6_1 = true then (some ((⟨#[]⟩ : ByteArray), (⟨#[]⟩ : ByteArray), false, 0, 7)) else (if t242 < 0 then (some ((⟨#[]⟩ : ByteArray), (⟨#[]⟩ : ByteArray), false, 0, 3)) else (path_options.l0 k1 true x7_1 l1 (l1.length : Int) (wrap64 (x16_1 + 1)) a0_0 a0_1 a0_2 t242)))) else (if t241.toList = ([98, 111, 100, 121] : List UInt8) then ((glyph_Fold.f t239).bind fun t243 => (if x7_1 = true then (some ((⟨#[]⟩ : ByteArray), (⟨#[]⟩ : ByteArray), false, 0, 7)) else (if t243.toList = ([55, 98, 105, 116] : List UInt8) then (path_options.l0 k1 x6_1 true l1 (l1.length : Int) (wrap64 (x16_1 + 1)) a0_0 a0_1 a0_2 x236003_1) else (if t243.toList = ([56, 98, 105, 116, 109, 105, 109, 101] : List UInt8) then (path_options.l0 k1 x6_1 true l1 (l1.length : Int) (wrap64 (x16_1 + 1)) a0_0 a0_1 a0_2 x236003_1) else (some ((⟨#[]⟩ : ByteArray), (⟨#[]⟩ : ByteArray), false, 0, 3)))))) else (some ((⟨#[]⟩ : ByteArray), (⟨#[]⟩ : ByteArray), false, 0, 1))))) = some (r1, r2, r3, r4, r5) := H
      have A8 := Aside0.mk A80
      clear A80
      replace H := Option.bind_eq_some_iff.mp H
      obtain ⟨t241, A90, H⟩ := H
      replace H : (if t241.toList = ([115, 105, 122, 101] : List UInt8) then ((path_number.f k1 t239).bind fun t242 => (if x6_1 = true then (some ((⟨#[]⟩ : ByteArray), (⟨#[]⟩ : ByteArray), false, 0, 7)) else (if t242 < 0 then (some ((⟨#[]⟩ : ByteArray), (⟨#[]⟩ : ByteArray), false, 0, 3)) else (path_options.l0 k1 true x7_1 l1 (l1.length : Int) (wrap64 (x16_1 + 1)) a0_0 a0_1 a0_2 t242)))) else (if t241.toList = ([98, 111, 100, 121] : List UInt8) then ((glyph_Fold.f t239).bind fun t243 => (if x7_1 = true then (some ((⟨#[]⟩ : ByteArray), (⟨#[]⟩ : ByteArray), false, 0, 7)) else (if t243.toList = ([55, 98, 105, 116] : List UInt8) then (path_options.l0 k1 x6_1 true l1 (l1.length : Int) (wrap64 (x16_1 + 1)) a0_0 a0_1 a0_2 x236003_1) else (if t243.toList = ([56, 98, 105, 116, 109, 105, 109, 101] : List UInt8) then (path_options.l0 k1 x6_1 true l1 (l1.length : Int) (wrap64 (x16_1 + 1)) a0_0 a0_1 a0_2 x236003_1) else (some ((⟨#[]⟩ : ByteArray), (⟨#[]⟩ : ByteArray), false, 0, 3)))))) else (some ((⟨#[]⟩ : ByteArray), (⟨#[]⟩ : ByteArray), false, 0, 1)))) = some (r1, r2, r3, r4, r5) := H
      have A9 := Aside0.mk A90
      clear A90
      by_cases c10 : t241.toList = ([115, 105, 122, 101] : List UInt8)
      ·rw [if_pos c10] at H
       have c10b0 : (t241.toList == ([115, 105, 122, 101] : List UInt8)) = true := beq_iff_eq.mpr c10
       have c10b1 : (t241.toList != ([115, 105, 122, 101] : List UInt8)) = false := bne_eq_false_iff_eq.mpr c10
       clear c10
       replace H := Option.bind_eq_some_iff.mp H
       obtain ⟨t242, A110, H⟩ := H
       replace H : (if x6_1 = true then (some ((⟨#[]⟩ : ByteArray), (⟨#[]⟩ : ByteArray), false, 0, 7)) else (if t242 < 0 then (some ((⟨#[]⟩ : ByteArray), (⟨#[]⟩ : ByteArray), false, 0, 3)) else (path_options.l0 k1 true x7_1 l1 (l1.length : Int) (wrap64 (x16_1 + 1)) a0_0 a0_1 a0_2 t242))) = some (r1, r2, r3, r4, r5) := H
       have A11 := Aside0.mk A110
       clear A110
       by_cases c12 : x6_1 = true
       ·subst c12
        have H1 : (some ((⟨#[]⟩ : ByteArray), (⟨#[]⟩ : ByteArray), false, 0, 7)) = some (r1, r2, r3, r4, r5) := by rw [if_pos rfl] at H; exact H
        clear H
        have H := H1
        clear H1
        simp only [Option.some.injEq, Prod.mk.injEq] at H
        obtain ⟨rfl, rfl, rfl, rfl, rfl⟩ := H
        have p237 : 0 ≤ (x16_1 : Int) := od
        have q237 : x16_1 < (l1.length : Int) := od
        obtain ⟨ad237, e237, hx237_0⟩ := Kd.at_string HR1.out x16_1 p237 q237
        cases e237
        replace hx237_0 := (HB.out.cell (World.block_lt_of_cell? w _ hx237_0)).trans hx237_0
        replace p237 := eq_true p237
        replace q237 := eq_true q237
        go_wp2_with (first | ((with_reducible refine gate_callee (f := 106) rfl ?_); refine goesL_ (some 22) rfl rfl Tryd.func106 (by kernel_rfl) rfl #[.string (rdOf ByteArray.empty l1 x16_1), .string (⟨#[61]⟩ : ByteArray)] rfl am ?_; (with_reducible refine (strings_Cut.calls (hG := by first | exact hG | exact Glob.below hG (by first | exact HB.out | (repeat (first | (with_reducible first | exact HB.out | apply below_alloc | apply pw_below_drewN | apply below_drew1 | refine below_set ?_ GE235.out | refine below_set ?_ GE236.out) | exact HB.out))) | exact Glob.drawn hG (by repeat (first | exact Drawn0.refl _ | apply Drawn0.step))) (rdOf ByteArray.empty l1 x16_1) (⟨#[61]⟩ : ByteArray) t238 t239 t240 _ A8.out).mono ?_); rintro e w13 ⟨rfl, hb⟩; refine ⟨_, rfl, ?_⟩; have n0_ := Aside0.mk (blk_below (g := gb235) (o := .cells #[.string a0_0, .string a0_1, .bool a0_2, .int .i64 x236003_1] 77 (0, 0)) bk hb); have n1_ := Aside0.mk (blk_below (g := gb236) (o := .cells #[.string x237000_1, .string x237001_1, .bool x237002_1, .int .i64 x237003_1] 77 (0, 0)) bk hb); have n2_ := Aside0.mk (below_step (by repeat (first | (with_reducible first | exact HB.out | apply below_alloc | apply pw_below_drewN | apply below_drew1 | refine below_set ?_ GE235.out | refine below_set ?_ GE236.out) | exact HB.out)) hb); clear BK235; clear BK236; clear HB; have BK235 := n0_; have BK236 := n1_; have HB := n2_; clear n0_ n1_ n2_; (try clear hb); (try clear hb2); (try clear hk); (try clear hi)) | ((with_reducible refine gate_callee (f := 99) rfl ?_); refine goesL_ (some 27) rfl rfl Tryd.func99 (by kernel_rfl) rfl #[.string t238] rfl am ?_; (with_reducible refine (glyph_Fold.calls t238 t241 _ A9.out).mono ?_); rintro e w14 ⟨rfl, hb⟩; refine ⟨_, rfl, ?_⟩; have n0_ := Aside0.mk (blk_below (g := gb235) (o := .cells #[.string a0_0, .string a0_1, .bool a0_2, .int .i64 x236003_1] 77 (0, 0)) bk hb); have n1_ := Aside0.mk (blk_below (g := gb236) (o := .cells #[.string x237000_1, .string x237001_1, .bool x237002_1, .int .i64 x237003_1] 77 (0, 0)) bk hb); have n2_ := Aside0.mk (below_step (by repeat (first | (with_reducible first | exact HB.out | apply below_alloc | apply pw_below_drewN | apply below_drew1 | refine below_set ?_ GE235.out | refine below_set ?_ GE236.out) | exact HB.out)) hb); clear BK235; clear BK236; clear HB; have BK235 := n0_; have BK236 := n1_; have HB := n2_; clear n0_ n1_ n2_; (try clear hb); (try clear hb2); (try clear hk); (try clear hi)) | ((with_reducible refine gate_callee (f := 148) rfl ?_); refine goesL_ (some 32) rfl rfl Tryd.func148 (by kernel_rfl) rfl #[.string t239] rfl am ?_; (with_reducible refine (path_number.calls k1 t239 t242 _ A11.out).mono ?_); rintro e w' ⟨rfl, ⟨nd, rfl⟩⟩; refine ⟨_, rfl, ?_⟩; (try (rw [drewN_self w14]; generalize hq_ : World.drewN w14 _ = w14; have n0_ : Aside0 (w14.heap[gb235]? = some (.cells #[.string a0_0, .string a0_1, .bool a0_2, .int .i64 x236003_1] 77 (0, 0))) := ⟨by rw [← hq_]; exact bk⟩; have n1_ : Aside0 (w14.heap[gb236]? = some (.cells #[.string x237000_1, .string x237001_1, .bool x237002_1, .int .i64 x237003_1] 77 (0, 0))) := ⟨by rw [← hq_]; exact bk⟩; have n2_ : Aside0 (Below w.heap.size w w14) := ⟨by rw [← hq_]; exact (by repeat (first | (with_reducible first | exact HB.out | apply below_alloc | apply pw_below_drewN | apply below_drew1 | refine below_set ?_ GE235.out | refine below_set ?_ GE236.out) | exact HB.out))⟩; clear BK235 BK236 HB hq_; have BK235 := n0_; have BK236 := n1_; have HB := n2_; clear n0_ n1_ n2_)); have hnb15 := NB235_236.out; have hnc15 := NB236_235.out; have hcz16_0 : w14.cell? ⟨gb235, 0, none⟩ = some (.string a0_0) := (blk_cell BK235.out 0).trans rfl; have hcz16_1 : w14.cell? ⟨gb235, 1, none⟩ = some (.string a0_1) := (blk_cell BK235.out 1).trans rfl; have hcz16_2 : w14.cell? ⟨gb235, 2, none⟩ = some (.bool a0_2) := (blk_cell BK235.out 2).trans rfl; have hcz16_3 : w14.cell? ⟨gb235, 3, none⟩ = some (.int .i64 x236003_1) := (blk_cell BK235.out 3).trans rfl; have hfz16_0 := blk_frozen BK235.out 0; have hfz16_1 := blk_frozen BK235.out 1; have hfz16_2 := blk_frozen BK235.out 2; have hfz16_3 := blk_frozen BK235.out 3; have hcz17_0 : w14.cell? ⟨gb236, 0, none⟩ = some (.string x237000_1) := (blk_cell BK236.out 0).trans rfl; have hcz17_1 : w14.cell? ⟨gb236, 1, none⟩ = some (.string x237001_1) := (blk_cell BK236.out 1).trans rfl; have hcz17_2 : w14.cell? ⟨gb236, 2, none⟩ = some (.bool x237002_1) := (blk_cell BK236.out 2).trans rfl; have hcz17_3 : w14.cell? ⟨gb236, 3, none⟩ = some (.int .i64 x237003_1) := (blk_cell BK236.out 3).trans rfl; have hfz17_0 := blk_frozen BK236.out 0; have hfz17_1 := blk_frozen BK236.out 1; have hfz17_2 := blk_frozen BK236.out 2; have hfz17_3 := blk_frozen BK236.out 3))
        refine bodyPost_ret (results_ct rfl _ _ gb236 77 #[.string (⟨#[]⟩ : ByteArray), .string (⟨#[]⟩ : ByteArray), .bool false, .int .i64 0] (0, 0) _ rfl (by (with_reducible repeat (first | refine blk_drewN ?_ _ | refine blk_drew ?_ | refine blk_alloc ?_ _)); refine blk_put (cs := #[.string (⟨#[]⟩ : ByteArray), .string (⟨#[]⟩ : ByteArray), .bool false, .int .i64 x237003_1]) ?_ 3 _ rfl; (with_reducible repeat (first | refine blk_drewN ?_ _ | refine blk_drew ?_ | refine blk_alloc ?_ _)); refine blk_put (cs := #[.string (⟨#[]⟩ : ByteArray), .string (⟨#[]⟩ : ByteArray), .bool x237002_1, .int .i64 x237003_1]) ?_ 2 _ rfl; (with_reducible repeat (first | refine blk_drewN ?_ _ | refine blk_drew ?_ | refine blk_alloc ?_ _)); refine blk_put (cs := #[.string (⟨#[]⟩ : ByteArray), .string x237001_1, .bool x237002_1, .int .i64 x237003_1]) ?_ 1 _ rfl; (with_reducible repeat (first | refine blk_drewN ?_ _ | refine blk_drew ?_ | refine blk_alloc ?_ _)); refine blk_put (cs := #[.string x237000_1, .string x237001_1, .bool x237002_1, .int .i64 x237003_1]) ?_ 0 _ rfl; (with_reducible repeat (first | refine blk_drewN ?_ _ | refine blk_drew ?_ | refine blk_alloc ?_ _)); refine blk_far ?_ NB236_235.out _; (with_reducible repeat (first | refine blk_drewN ?_ _ | refine blk_drew ?_ | refine blk_alloc ?_ _)); exact BK236.out) Tryd.underlying77 rfl (by kernel_rfl)) rfl ?_
        exact ⟨by first | rfl | (simp [errW_none, errW_some] <;> rfl) | (simp [*, errW_none, errW_some] <;> rfl), by repeat (first | (with_reducible first | exact HB.out | apply below_alloc | apply pw_below_drewN | apply below_drew1 | refine below_set ?_ GE235.out | refine below_set ?_ GE236.out) | exact HB.out)⟩
       ·replace c12 := Bool.eq_false_iff.mpr c12
        subst c12
        have H1 : (if t242 < 0 then (some ((⟨#[]⟩ : ByteArray), (⟨#[]⟩ : ByteArray), false, 0, 3)) else (path_options.l0 k1 true x7_1 l1 (l1.length : Int) (wrap64 (x16_1 + 1)) a0_0 a0_1 a0_2 t242)) = some (r1, r2, r3, r4, r5) := by rw [if_neg (show ¬ (false = true) by decide)] at H; exact H
        clear H
        have H := H1
        clear H1
        by_cases c18 : t242 < 0
        ·rw [if_pos c18] at H
         have c18b0 : decide (t242 < 0) = true := decide_eq_true c18
         clear c18
         simp only [Option.some.injEq, Prod.mk.injEq] at H
         obtain ⟨rfl, rfl, rfl, rfl, rfl⟩ := H
         have p237 : 0 ≤ (x16_1 : Int) := od
         have q237 : x16_1 < (l1.length : Int) := od
         obtain ⟨ad237, e237, hx237_0⟩ := Kd.at_string HR1.out x16_1 p237 q237
         cases e237
         replace hx237_0 := (HB.out.cell (World.block_lt_of_cell? w _ hx237_0)).trans hx237_0
         replace p237 := eq_true p237
         replace q237 := eq_true q237
         go_wp2_with (first | ((with_reducible refine gate_callee (f := 106) rfl ?_); refine goesL_ (some 22) rfl rfl Tryd.func106 (by kernel_rfl) rfl #[.string (rdOf ByteArray.empty l1 x16_1), .string (⟨#[61]⟩ : ByteArray)] rfl am ?_; (with_reducible refine (strings_Cut.calls (hG := by first | exact hG | exact Glob.below hG (by first | exact HB.out | (repeat (first | (with_reducible first | exact HB.out | apply below_alloc | apply pw_below_drewN | apply below_drew1 | refine below_set ?_ GE235.out | refine below_set ?_ GE236.out) | exact HB.out))) | exact Glob.drawn hG (by repeat (first | exact Drawn0.refl _ | apply Drawn0.step))) (rdOf ByteArray.empty l1 x16_1) (⟨#[61]⟩ : ByteArray) t238 t239 t240 _ A8.out).mono ?_); rintro e w19 ⟨rfl, hb⟩; refine ⟨_, rfl, ?_⟩; have n0_ := Aside0.mk (blk_below (g := gb235) (o := .cells #[.string a0_0, .string a0_1, .bool a0_2, .int .i64 x236003_1] 77 (0, 0)) bk hb); have n1_ := Aside0.mk (blk_below (g := gb236) (o := .cells #[.string x237000_1, .string x237001_1, .bool x237002_1, .int .i64 x237003_1] 77 (0, 0)) bk hb); have n2_ := Aside0.mk (below_step (by repeat (first | (with_reducible first | exact HB.out | apply below_alloc | apply pw_below_drewN | apply below_drew1 | refine below_set ?_ GE235.out | refine below_set ?_ GE236.out) | exact HB.out)) hb); clear BK235; clear BK236; clear HB; have BK235 := n0_; have BK236 := n1_; have HB := n2_; clear n0_ n1_ n2_; (try clear hb); (try clear hb2); (try clear hk); (try clear hi)) | ((with_reducible refine gate_callee (f := 99) rfl ?_); refine goesL_ (some 27) rfl rfl Tryd.func99 (by kernel_rfl) rfl #[.string t238] rfl am ?_; (with_reducible refine (glyph_Fold.calls t238 t241 _ A9.out).mono ?_); rintro e w20 ⟨rfl, hb⟩; refine ⟨_, rfl, ?_⟩; have n0_ := Aside0.mk (blk_below (g := gb235) (o := .cells #[.string a0_0, .string a0_1, .bool a0_2, .int .i64 x236003_1] 77 (0, 0)) bk hb); have n1_ := Aside0.mk (blk_below (g := gb236) (o := .cells #[.string x237000_1, .string x237001_1, .bool x237002_1, .int .i64 x237003_1] 77 (0, 0)) bk hb); have n2_ := Aside0.mk (below_step (by repeat (first | (with_reducible first | exact HB.out | apply below_alloc | apply pw_below_drewN | apply below_drew1 | refine below_set ?_ GE235.out | refine below_set ?_ GE236.out) | exact HB.out)) hb); clear BK235; clear BK236; clear HB; have BK235 := n0_; have BK236 := n1_; have HB := n2_; clear n0_ n1_ n2_; (try clear hb); (try clear hb2); (try clear hk); (try clear hi)) | ((with_reducible refine gate_callee (f := 148) rfl ?_); refine goesL_ (some 32) rfl rfl Tryd.func148 (by kernel_rfl) rfl #[.string t239] rfl am ?_; (with_reducible refine (path_number.calls k1 t239 t242 _ A11.out).mono ?_); rintro e w' ⟨rfl, ⟨nd, rfl⟩⟩; refine ⟨_, rfl, ?_⟩; (try (rw [drewN_self w20]; generalize hq_ : World.drewN w20 _ = w20; have n0_ : Aside0 (w20.heap[gb235]? = some (.cells #[.string a0_0, .string a0_1, .bool a0_2, .int .i64 x236003_1] 77 (0, 0))) := ⟨by rw [← hq_]; exact bk⟩; have n1_ : Aside0 (w20.heap[gb236]? = some (.cells #[.string x237000_1, .string x237001_1, .bool x237002_1, .int .i64 x237003_1] 77 (0, 0))) := ⟨by rw [← hq_]; exact bk⟩; have n2_ : Aside0 (Below w.heap.size w w20) := ⟨by rw [← hq_]; exact (by repeat (first | (with_reducible first | exact HB.out | apply below_alloc | apply pw_below_drewN | apply below_drew1 | refine below_set ?_ GE235.out | refine below_set ?_ GE236.out) | exact HB.out))⟩; clear BK235 BK236 HB hq_; have BK235 := n0_; have BK236 := n1_; have HB := n2_; clear n0_ n1_ n2_)); have hnb21 := NB235_236.out; have hnc21 := NB236_235.out; have hcz22_0 : w20.cell? ⟨gb235, 0, none⟩ = some (.string a0_0) := (blk_cell BK235.out 0).trans rfl; have hcz22_1 : w20.cell? ⟨gb235, 1, none⟩ = some (.string a0_1) := (blk_cell BK235.out 1).trans rfl; have hcz22_2 : w20.cell? ⟨gb235, 2, none⟩ = some (.bool a0_2) := (blk_cell BK235.out 2).trans rfl; have hcz22_3 : w20.cell? ⟨gb235, 3, none⟩ = some (.int .i64 x236003_1) := (blk_cell BK235.out 3).trans rfl; have hfz22_0 := blk_frozen BK235.out 0; have hfz22_1 := blk_frozen BK235.out 1; have hfz22_2 := blk_frozen BK235.out 2; have hfz22_3 := blk_frozen BK235.out 3; have hcz23_0 : w20.cell? ⟨gb236, 0, none⟩ = some (.string x237000_1) := (blk_cell BK236.out 0).trans rfl; have hcz23_1 : w20.cell? ⟨gb236, 1, none⟩ = some (.string x237001_1) := (blk_cell BK236.out 1).trans rfl; have hcz23_2 : w20.cell? ⟨gb236, 2, none⟩ = some (.bool x237002_1) := (blk_cell BK236.out 2).trans rfl; have hcz23_3 : w20.cell? ⟨gb236, 3, none⟩ = some (.int .i64 x237003_1) := (blk_cell BK236.out 3).trans rfl; have hfz23_0 := blk_frozen BK236.out 0; have hfz23_1 := blk_frozen BK236.out 1; have hfz23_2 := blk_frozen BK236.out 2; have hfz23_3 := blk_frozen BK236.out 3))
         refine bodyPost_ret (results_ct rfl _ _ gb236 77 #[.string (⟨#[]⟩ : ByteArray), .string (⟨#[]⟩ : ByteArray), .bool false, .int .i64 0] (0, 0) _ rfl (by (with_reducible repeat (first | refine blk_drewN ?_ _ | refine blk_drew ?_ | refine blk_alloc ?_ _)); refine blk_put (cs := #[.string (⟨#[]⟩ : ByteArray), .string (⟨#[]⟩ : ByteArray), .bool false, .int .i64 x237003_1]) ?_ 3 _ rfl; (with_reducible repeat (first | refine blk_drewN ?_ _ | refine blk_drew ?_ | refine blk_alloc ?_ _)); refine blk_put (cs := #[.string (⟨#[]⟩ : ByteArray), .string (⟨#[]⟩ : ByteArray), .bool x237002_1, .int .i64 x237003_1]) ?_ 2 _ rfl; (with_reducible repeat (first | refine blk_drewN ?_ _ | refine blk_drew ?_ | refine blk_alloc ?_ _)); refine blk_put (cs := #[.string (⟨#[]⟩ : ByteArray), .string x237001_1, .bool x237002_1, .int .i64 x237003_1]) ?_ 1 _ rfl; (with_reducible repeat (first | refine blk_drewN ?_ _ | refine blk_drew ?_ | refine blk_alloc ?_ _)); refine blk_put (cs := #[.string x237000_1, .string x237001_1, .bool x237002_1, .int .i64 x237003_1]) ?_ 0 _ rfl; (with_reducible repeat (first | refine blk_drewN ?_ _ | refine blk_drew ?_ | refine blk_alloc ?_ _)); refine blk_far ?_ NB236_235.out _; (with_reducible repeat (first | refine blk_drewN ?_ _ | refine blk_drew ?_ | refine blk_alloc ?_ _)); exact BK236.out) Tryd.underlying77 rfl (by kernel_rfl)) rfl ?_
         exact ⟨by first | rfl | (simp [errW_none, errW_some] <;> rfl) | (simp [*, errW_none, errW_some] <;> rfl), by repeat (first | (with_reducible first | exact HB.out | apply below_alloc | apply pw_below_drewN | apply below_drew1 | refine below_set ?_ GE235.out | refine below_set ?_ GE236.out) | exact HB.out)⟩
        ·rw [if_neg c18] at H
         have c18b0 : decide (t242 < 0) = false := decide_eq_false c18
         clear c18
         have H' := Aside0.mk H
         clear H
         have p237 : 0 ≤ (x16_1 : Int) := od
         have q237 : x16_1 < (l1.length : Int) := od
         obtain ⟨ad237, e237, hx237_0⟩ := Kd.at_string HR1.out x16_1 p237 q237
         cases e237
         replace hx237_0 := (HB.out.cell (World.block_lt_of_cell? w _ hx237_0)).trans hx237_0
         replace p237 := eq_true p237
         replace q237 := eq_true q237
         go_wp2_with (first | ((with_reducible refine gate_callee (f := 106) rfl ?_); refine goesL_ (some 22) rfl rfl Tryd.func106 (by kernel_rfl) rfl #[.string (rdOf ByteArray.empty l1 x16_1), .string (⟨#[61]⟩ : ByteArray)] rfl am ?_; (with_reducible refine (strings_Cut.calls (hG := by first | exact hG | exact Glob.below hG (by first | exact HB.out | (repeat (first | (with_reducible first | exact HB.out | apply below_alloc | apply pw_below_drewN | apply below_drew1 | refine below_set ?_ GE235.out | refine below_set ?_ GE236.out) | exact HB.out))) | exact Glob.drawn hG (by repeat (first | exact Drawn0.refl _ | apply Drawn0.step))) (rdOf ByteArray.empty l1 x16_1) (⟨#[61]⟩ : ByteArray) t238 t239 t240 _ A8.out).mono ?_); rintro e w24 ⟨rfl, hb⟩; refine ⟨_, rfl, ?_⟩; have n0_ := Aside0.mk (blk_below (g := gb235) (o := .cells #[.string a0_0, .string a0_1, .bool a0_2, .int .i64 x236003_1] 77 (0, 0)) bk hb); have n1_ := Aside0.mk (blk_below (g := gb236) (o := .cells #[.string x237000_1, .string x237001_1, .bool x237002_1, .int .i64 x237003_1] 77 (0, 0)) bk hb); have n2_ := Aside0.mk (below_step (by repeat (first | (with_reducible first | exact HB.out | apply below_alloc | apply pw_below_drewN | apply below_drew1 | refine below_set ?_ GE235.out | refine below_set ?_ GE236.out) | exact HB.out)) hb); clear BK235; clear BK236; clear HB; have BK235 := n0_; have BK236 := n1_; have HB := n2_; clear n0_ n1_ n2_; (try clear hb); (try clear hb2); (try clear hk); (try clear hi)) | ((with_reducible refine gate_callee (f := 99) rfl ?_); refine goesL_ (some 27) rfl rfl Tryd.func99 (by kernel_rfl) rfl #[.string t238] rfl am ?_; (with_reducible refine (glyph_Fold.calls t238 t241 _ A9.out).mono ?_); rintro e w25 ⟨rfl, hb⟩; refine ⟨_, rfl, ?_⟩; have n0_ := Aside0.mk (blk_below (g := gb235) (o := .cells #[.string a0_0, .string a0_1, .bool a0_2, .int .i64 x236003_1] 77 (0, 0)) bk hb); have n1_ := Aside0.mk (blk_below (g := gb236) (o := .cells #[.string x237000_1, .string x237001_1, .bool x237002_1, .int .i64 x237003_1] 77 (0, 0)) bk hb); have n2_ := Aside0.mk (below_step (by repeat (first | (with_reducible first | exact HB.out | apply below_alloc | apply pw_below_drewN | apply below_drew1 | refine below_set ?_ GE235.out | refine below_set ?_ GE236.out) | exact HB.out)) hb); clear BK235; clear BK236; clear HB; have BK235 := n0_; have BK236 := n1_; have HB := n2_; clear n0_ n1_ n2_; (try clear hb); (try clear hb2); (try clear hk); (try clear hi)) | ((with_reducible refine gate_callee (f := 148) rfl ?_); refine goesL_ (some 32) rfl rfl Tryd.func148 (by kernel_rfl) rfl #[.string t239] rfl am ?_; (with_reducible refine (path_number.calls k1 t239 t242 _ A11.out).mono ?_); rintro e w' ⟨rfl, ⟨nd, rfl⟩⟩; refine ⟨_, rfl, ?_⟩; (try (rw [drewN_self w25]; generalize hq_ : World.drewN w25 _ = w25; have n0_ : Aside0 (w25.heap[gb235]? = some (.cells #[.string a0_0, .string a0_1, .bool a0_2, .int .i64 x236003_1] 77 (0, 0))) := ⟨by rw [← hq_]; exact bk⟩; have n1_ : Aside0 (w25.heap[gb236]? = some (.cells #[.string x237000_1, .string x237001_1, .bool x237002_1, .int .i64 x237003_1] 77 (0, 0))) := ⟨by rw [← hq_]; exact bk⟩; have n2_ : Aside0 (Below w.heap.size w w25) := ⟨by rw [← hq_]; exact (by repeat (first | (with_reducible first | exact HB.out | apply below_alloc | apply pw_below_drewN | apply below_drew1 | refine below_set ?_ GE235.out | refine below_set ?_ GE236.out) | exact HB.out))⟩; clear BK235 BK236 HB hq_; have BK235 := n0_; have BK236 := n1_; have HB := n2_; clear n0_ n1_ n2_)); have hnb26 := NB235_236.out; have hnc26 := NB236_235.out; have hcz27_0 : w25.cell? ⟨gb235, 0, none⟩ = some (.string a0_0) := (blk_cell BK235.out 0).trans rfl; have hcz27_1 : w25.cell? ⟨gb235, 1, none⟩ = some (.string a0_1) := (blk_cell BK235.out 1).trans rfl; have hcz27_2 : w25.cell? ⟨gb235, 2, none⟩ = some (.bool a0_2) := (blk_cell BK235.out 2).trans rfl; have hcz27_3 : w25.cell? ⟨gb235, 3, none⟩ = some (.int .i64 x236003_1) := (blk_cell BK235.out 3).trans rfl; have hfz27_0 := blk_frozen BK235.out 0; have hfz27_1 := blk_frozen BK235.out 1; have hfz27_2 := blk_frozen BK235.out 2; have hfz27_3 := blk_frozen BK235.out 3))
         go_roundg k1
         case measure => have := HK1.out; omega
         case rel => exact ⟨(true), (x7_1), (wrap64 (x16_1 + 1)), (t242), (x237000_1), (x237001_1), (x237002_1), (x237003_1), cl, cl, cl, H', ⟨by have := HK1.out; omega⟩, ⟨by (with_reducible repeat (first | refine blk_drewN ?_ _ | refine blk_drew ?_ | refine blk_alloc ?_ _)); refine blk_put (cs := #[.string a0_0, .string a0_1, .bool a0_2, .int .i64 x236003_1]) ?_ 3 _ rfl; (with_reducible repeat (first | refine blk_drewN ?_ _ | refine blk_drew ?_ | refine blk_alloc ?_ _)); exact BK235.out⟩, ⟨by (with_reducible repeat (first | refine blk_drewN ?_ _ | refine blk_drew ?_ | refine blk_alloc ?_ _)); refine blk_far ?_ NB236_235.out _; (with_reducible repeat (first | refine blk_drewN ?_ _ | refine blk_drew ?_ | refine blk_alloc ?_ _)); exact BK236.out⟩, ⟨by repeat (first | (with_reducible first | exact HB.out | apply below_alloc | apply pw_below_drewN | apply below_drew1 | refine below_set ?_ GE235.out | refine below_set ?_ GE236.out) | exact HB.out)⟩⟩
      ·rw [if_neg c10] at H
       have c10b0 : (t241.toList == ([115, 105, 122, 101] : List UInt8)) = false := beq_eq_false_iff_ne.mpr c10
       have c10b1 : (t241.toList != ([115, 105, 122, 101] : List UInt8)) = true := bne_iff_ne.mpr c10
       by_cases c28 : t241.toList = ([98, 111, 100, 121] : List UInt8)
       ·rw [if_pos c28] at H
        have c28b0 : (t241.toList == ([98, 111, 100, 121] : List UInt8)) = true := beq_iff_eq.mpr c28
        have c28b1 : (t241.toList != ([98, 111, 100, 121] : List UInt8)) = false := bne_eq_false_iff_eq.mpr c28
        clear c28
        replace H := Option.bind_eq_some_iff.mp H
        obtain ⟨t243, A290, H⟩ := H
        replace H : (if x7_1 = true then (some ((⟨#[]⟩ : ByteArray), (⟨#[]⟩ : ByteArray), false, 0, 7)) else (if t243.toList = ([55, 98, 105, 116] : List UInt8) then (path_options.l0 k1 x6_1 true l1 (l1.length : Int) (wrap64 (x16_1 + 1)) a0_0 a0_1 a0_2 x236003_1) else (if t243.toList = ([56, 98, 105, 116, 109, 105, 109, 101] : List UInt8) then (path_options.l0 k1 x6_1 true l1 (l1.length : Int) (wrap64 (x16_1 + 1)) a0_0 a0_1 a0_2 x236003_1) else (some ((⟨#[]⟩ : ByteArray), (⟨#[]⟩ : ByteArray), false, 0, 3))))) = some (r1, r2, r3, r4, r5) := H
        have A29 := Aside0.mk A290
        clear A290
        by_cases c30 : x7_1 = true
        ·subst c30
         have H1 : (some ((⟨#[]⟩ : ByteArray), (⟨#[]⟩ : ByteArray), false, 0, 7)) = some (r1, r2, r3, r4, r5) := by rw [if_pos rfl] at H; exact H
         clear H
         have H := H1
         clear H1
         simp only [Option.some.injEq, Prod.mk.injEq] at H
         obtain ⟨rfl, rfl, rfl, rfl, rfl⟩ := H
         have p237 : 0 ≤ (x16_1 : Int) := od
         have q237 : x16_1 < (l1.length : Int) := od
         obtain ⟨ad237, e237, hx237_0⟩ := Kd.at_string HR1.out x16_1 p237 q237
         cases e237
         replace hx237_0 := (HB.out.cell (World.block_lt_of_cell? w _ hx237_0)).trans hx237_0
         replace p237 := eq_true p237
         replace q237 := eq_true q237
         go_wp2_with (first | ((with_reducible refine gate_callee (f := 106) rfl ?_); refine goesL_ (some 22) rfl rfl Tryd.func106 (by kernel_rfl) rfl #[.string (rdOf ByteArray.empty l1 x16_1), .string (⟨#[61]⟩ : ByteArray)] rfl am ?_; (with_reducible refine (strings_Cut.calls (hG := by first | exact hG | exact Glob.below hG (by first | exact HB.out | (repeat (first | (with_reducible first | exact HB.out | apply below_alloc | apply pw_below_drewN | apply below_drew1 | refine below_set ?_ GE235.out | refine below_set ?_ GE236.out) | exact HB.out))) | exact Glob.drawn hG (by repeat (first | exact Drawn0.refl _ | apply Drawn0.step))) (rdOf ByteArray.empty l1 x16_1) (⟨#[61]⟩ : ByteArray) t238 t239 t240 _ A8.out).mono ?_); rintro e w31 ⟨rfl, hb⟩; refine ⟨_, rfl, ?_⟩; have n0_ := Aside0.mk (blk_below (g := gb235) (o := .cells #[.string a0_0, .string a0_1, .bool a0_2, .int .i64 x236003_1] 77 (0, 0)) bk hb); have n1_ := Aside0.mk (blk_below (g := gb236) (o := .cells #[.string x237000_1, .string x237001_1, .bool x237002_1, .int .i64 x237003_1] 77 (0, 0)) bk hb); have n2_ := Aside0.mk (below_step (by repeat (first | (with_reducible first | exact HB.out | apply below_alloc | apply pw_below_drewN | apply below_drew1 | refine below_set ?_ GE235.out | refine below_set ?_ GE236.out) | exact HB.out)) hb); clear BK235; clear BK236; clear HB; have BK235 := n0_; have BK236 := n1_; have HB := n2_; clear n0_ n1_ n2_; (try clear hb); (try clear hb2); (try clear hk); (try clear hi)) | ((with_reducible refine gate_callee (f := 99) rfl ?_); refine goesL_ (some 27) rfl rfl Tryd.func99 (by kernel_rfl) rfl #[.string t238] rfl am ?_; (with_reducible refine (glyph_Fold.calls t238 t241 _ A9.out).mono ?_); rintro e w32 ⟨rfl, hb⟩; refine ⟨_, rfl, ?_⟩; have n0_ := Aside0.mk (blk_below (g := gb235) (o := .cells #[.string a0_0, .string a0_1, .bool a0_2, .int .i64 x236003_1] 77 (0, 0)) bk hb); have n1_ := Aside0.mk (blk_below (g := gb236) (o := .cells #[.string x237000_1, .string x237001_1, .bool x237002_1, .int .i64 x237003_1] 77 (0, 0)) bk hb); have n2_ := Aside0.mk (below_step (by repeat (first | (with_reducible first | exact HB.out | apply below_alloc | apply pw_below_drewN | apply below_drew1 | refine below_set ?_ GE235.out | refine below_set ?_ GE236.out) | exact HB.out)) hb); clear BK235; clear BK236; clear HB; have BK235 := n0_; have BK236 := n1_; have HB := n2_; clear n0_ n1_ n2_; (try clear hb); (try clear hb2); (try clear hk); (try clear hi)) | ((with_reducible refine gate_callee (f := 99) rfl ?_); refine goesL_ (some 43) rfl rfl Tryd.func99 (by kernel_rfl) rfl #[.string t239] rfl am ?_; (with_reducible refine (glyph_Fold.calls t239 t243 _ A29.out).mono ?_); rintro e w33 ⟨rfl, hb⟩; refine ⟨_, rfl, ?_⟩; have n0_ := Aside0.mk (blk_below (g := gb235) (o := .cells #[.string a0_0, .string a0_1, .bool a0_2, .int .i64 x236003_1] 77 (0, 0)) bk hb); have n1_ := Aside0.mk (blk_below (g := gb236) (o := .cells #[.string x237000_1, .string x237001_1, .bool x237002_1, .int .i64 x237003_1] 77 (0, 0)) bk hb); have n2_ := Aside0.mk (below_step (by repeat (first | (with_reducible first | exact HB.out | apply below_alloc | apply pw_below_drewN | apply below_drew1 | refine below_set ?_ GE235.out | refine below_set ?_ GE236.out) | exact HB.out)) hb); clear BK235; clear BK236; clear HB; have BK235 := n0_; have BK236 := n1_; have HB := n2_; clear n0_ n1_ n2_; (try clear hb); (try clear hb2); (try clear hk); (try clear hi); have hnb34 := NB236_235.out; have hnc34 := NB235_236.out; have hcz35_0 : w33.cell? ⟨gb236, 0, none⟩ = some (.string x237000_1) := (blk_cell BK236.out 0).trans rfl; have hcz35_1 : w33.cell? ⟨gb236, 1, none⟩ = some (.string x237001_1) := (blk_cell BK236.out 1).trans rfl; have hcz35_2 : w33.cell? ⟨gb236, 2, none⟩ = some (.bool x237002_1) := (blk_cell BK236.out 2).trans rfl; have hcz35_3 : w33.cell? ⟨gb236, 3, none⟩ = some (.int .i64 x237003_1) := (blk_cell BK236.out 3).trans rfl; have hfz35_0 := blk_frozen BK236.out 0; have hfz35_1 := blk_frozen BK236.out 1; have hfz35_2 := blk_frozen BK236.out 2; have hfz35_3 := blk_frozen BK236.out 3))
         refine bodyPost_ret (results_ct rfl _ _ gb236 77 #[.string (⟨#[]⟩ : ByteArray), .string (⟨#[]⟩ : ByteArray), .bool false, .int .i64 0] (0, 0) _ rfl (by (with_reducible repeat (first | refine blk_drewN ?_ _ | refine blk_drew ?_ | refine blk_alloc ?_ _)); refine blk_put (cs := #[.string (⟨#[]⟩ : ByteArray), .string (⟨#[]⟩ : ByteArray), .bool false, .int .i64 x237003_1]) ?_ 3 _ rfl; (with_reducible repeat (first | refine blk_drewN ?_ _ | refine blk_drew ?_ | refine blk_alloc ?_ _)); refine blk_put (cs := #[.string (⟨#[]⟩ : ByteArray), .string (⟨#[]⟩ : ByteArray), .bool x237002_1, .int .i64 x237003_1]) ?_ 2 _ rfl; (with_reducible repeat (first | refine blk_drewN ?_ _ | refine blk_drew ?_ | refine blk_alloc ?_ _)); refine blk_put (cs := #[.string (⟨#[]⟩ : ByteArray), .string x237001_1, .bool x237002_1, .int .i64 x237003_1]) ?_ 1 _ rfl; (with_reducible repeat (first | refine blk_drewN ?_ _ | refine blk_drew ?_ | refine blk_alloc ?_ _)); refine blk_put (cs := #[.string x237000_1, .string x237001_1, .bool x237002_1, .int .i64 x237003_1]) ?_ 0 _ rfl; (with_reducible repeat (first | refine blk_drewN ?_ _ | refine blk_drew ?_ | refine blk_alloc ?_ _)); exact BK236.out) Tryd.underlying77 rfl (by kernel_rfl)) rfl ?_
         exact ⟨by first | rfl | (simp [errW_none, errW_some] <;> rfl) | (simp [*, errW_none, errW_some] <;> rfl), by repeat (first | (with_reducible first | exact HB.out | apply below_alloc | apply pw_below_drewN | apply below_drew1 | refine below_set ?_ GE235.out | refine below_set ?_ GE236.out) | exact HB.out)⟩
        ·replace c30 := Bool.eq_false_iff.mpr c30
         subst c30
         have H1 : (if t243.toList = ([55, 98, 105, 116] : List UInt8) then (path_options.l0 k1 x6_1 true l1 (l1.length : Int) (wrap64 (x16_1 + 1)) a0_0 a0_1 a0_2 x236003_1) else (if t243.toList = ([56, 98, 105, 116, 109, 105, 109, 101] : List UInt8) then (path_options.l0 k1 x6_1 true l1 (l1.length : Int) (wrap64 (x16_1 + 1)) a0_0 a0_1 a0_2 x236003_1) else (some ((⟨#[]⟩ : ByteArray), (⟨#[]⟩ : ByteArray), false, 0, 3)))) = some (r1, r2, r3, r4, r5) := by rw [if_neg (show ¬ (false = true) by decide)] at H; exact H
         clear H
         have H := H1
         clear H1
         by_cases c36 : t243.toList = ([55, 98, 105, 116] : List UInt8)
         ·rw [if_pos c36] at H
          have c36b0 : (t243.toList == ([55, 98, 105, 116] : List UInt8)) = true := beq_iff_eq.mpr c36
          have c36b1 : (t243.toList != ([55, 98, 105, 116] : List UInt8)) = false := bne_eq_false_iff_eq.mpr c36
          clear c36
          have H' := Aside0.mk H
          clear H
          have p237 : 0 ≤ (x16_1 : Int) := od
          have q237 : x16_1 < (l1.length : Int) := od
          obtain ⟨ad237, e237, hx237_0⟩ := Kd.at_string HR1.out x16_1 p237 q237
          cases e237
          replace hx237_0 := (HB.out.cell (World.block_lt_of_cell? w _ hx237_0)).trans hx237_0
          replace p237 := eq_true p237
          replace q237 := eq_true q237
          go_wp2_with (first | ((with_reducible refine gate_callee (f := 106) rfl ?_); refine goesL_ (some 22) rfl rfl Tryd.func106 (by kernel_rfl) rfl #[.string (rdOf ByteArray.empty l1 x16_1), .string (⟨#[61]⟩ : ByteArray)] rfl am ?_; (with_reducible refine (strings_Cut.calls (hG := by first | exact hG | exact Glob.below hG (by first | exact HB.out | (repeat (first | (with_reducible first | exact HB.out | apply below_alloc | apply pw_below_drewN | apply below_drew1 | refine below_set ?_ GE235.out | refine below_set ?_ GE236.out) | exact HB.out))) | exact Glob.drawn hG (by repeat (first | exact Drawn0.refl _ | apply Drawn0.step))) (rdOf ByteArray.empty l1 x16_1) (⟨#[61]⟩ : ByteArray) t238 t239 t240 _ A8.out).mono ?_); rintro e w37 ⟨rfl, hb⟩; refine ⟨_, rfl, ?_⟩; have n0_ := Aside0.mk (blk_below (g := gb235) (o := .cells #[.string a0_0, .string a0_1, .bool a0_2, .int .i64 x236003_1] 77 (0, 0)) bk hb); have n1_ := Aside0.mk (blk_below (g := gb236) (o := .cells #[.string x237000_1, .string x237001_1, .bool x237002_1, .int .i64 x237003_1] 77 (0, 0)) bk hb); have n2_ := Aside0.mk (below_step (by repeat (first | (with_reducible first | exact HB.out | apply below_alloc | apply pw_below_drewN | apply below_drew1 | refine below_set ?_ GE235.out | refine below_set ?_ GE236.out) | exact HB.out)) hb); clear BK235; clear BK236; clear HB; have BK235 := n0_; have BK236 := n1_; have HB := n2_; clear n0_ n1_ n2_; (try clear hb); (try clear hb2); (try clear hk); (try clear hi)) | ((with_reducible refine gate_callee (f := 99) rfl ?_); refine goesL_ (some 27) rfl rfl Tryd.func99 (by kernel_rfl) rfl #[.string t238] rfl am ?_; (with_reducible refine (glyph_Fold.calls t238 t241 _ A9.out).mono ?_); rintro e w38 ⟨rfl, hb⟩; refine ⟨_, rfl, ?_⟩; have n0_ := Aside0.mk (blk_below (g := gb235) (o := .cells #[.string a0_0, .string a0_1, .bool a0_2, .int .i64 x236003_1] 77 (0, 0)) bk hb); have n1_ := Aside0.mk (blk_below (g := gb236) (o := .cells #[.string x237000_1, .string x237001_1, .bool x237002_1, .int .i64 x237003_1] 77 (0, 0)) bk hb); have n2_ := Aside0.mk (below_step (by repeat (first | (with_reducible first | exact HB.out | apply below_alloc | apply pw_below_drewN | apply below_drew1 | refine below_set ?_ GE235.out | refine below_set ?_ GE236.out) | exact HB.out)) hb); clear BK235; clear BK236; clear HB; have BK235 := n0_; have BK236 := n1_; have HB := n2_; clear n0_ n1_ n2_; (try clear hb); (try clear hb2); (try clear hk); (try clear hi)) | ((with_reducible refine gate_callee (f := 99) rfl ?_); refine goesL_ (some 43) rfl rfl Tryd.func99 (by kernel_rfl) rfl #[.string t239] rfl am ?_; (with_reducible refine (glyph_Fold.calls t239 t243 _ A29.out).mono ?_); rintro e w39 ⟨rfl, hb⟩; refine ⟨_, rfl, ?_⟩; have n0_ := Aside0.mk (blk_below (g := gb235) (o := .cells #[.string a0_0, .string a0_1, .bool a0_2, .int .i64 x236003_1] 77 (0, 0)) bk hb); have n1_ := Aside0.mk (blk_below (g := gb236) (o := .cells #[.string x237000_1, .string x237001_1, .bool x237002_1, .int .i64 x237003_1] 77 (0, 0)) bk hb); have n2_ := Aside0.mk (below_step (by repeat (first | (with_reducible first | exact HB.out | apply below_alloc | apply pw_below_drewN | apply below_drew1 | refine below_set ?_ GE235.out | refine below_set ?_ GE236.out) | exact HB.out)) hb); clear BK235; clear BK236; clear HB; have BK235 := n0_; have BK236 := n1_; have HB := n2_; clear n0_ n1_ n2_; (try clear hb); (try clear hb2); (try clear hk); (try clear hi)))
          go_roundg k1
          case measure => have := HK1.out; omega
          case rel => exact ⟨(x6_1), (true), (wrap64 (x16_1 + 1)), (x236003_1), (x237000_1), (x237001_1), (x237002_1), (x237003_1), cl, cl, cl, H', ⟨by have := HK1.out; omega⟩, ⟨by (with_reducible repeat (first | refine blk_drewN ?_ _ | refine blk_drew ?_ | refine blk_alloc ?_ _)); exact BK235.out⟩, ⟨by (with_reducible repeat (first | refine blk_drewN ?_ _ | refine blk_drew ?_ | refine blk_alloc ?_ _)); exact BK236.out⟩, ⟨by repeat (first | (with_reducible first | exact HB.out | apply below_alloc | apply pw_below_drewN | apply below_drew1 | refine below_set ?_ GE235.out | refine below_set ?_ GE236.out) | exact HB.out)⟩⟩
         ·rw [if_neg c36] at H
          have c36b0 : (t243.toList == ([55, 98, 105, 116] : List UInt8)) = false := beq_eq_false_iff_ne.mpr c36
          have c36b1 : (t243.toList != ([55, 98, 105, 116] : List UInt8)) = true := bne_iff_ne.mpr c36
          by_cases c40 : t243.toList = ([56, 98, 105, 116, 109, 105, 109, 101] : List UInt8)
          ·rw [if_pos c40] at H
           have c40b0 : (t243.toList == ([56, 98, 105, 116, 109, 105, 109, 101] : List UInt8)) = true := beq_iff_eq.mpr c40
           have c40b1 : (t243.toList != ([56, 98, 105, 116, 109, 105, 109, 101] : List UInt8)) = false := bne_eq_false_iff_eq.mpr c40
           clear c40
           have H' := Aside0.mk H
           clear H
           have p237 : 0 ≤ (x16_1 : Int) := od
           have q237 : x16_1 < (l1.length : Int) := od
           obtain ⟨ad237, e237, hx237_0⟩ := Kd.at_string HR1.out x16_1 p237 q237
           cases e237
           replace hx237_0 := (HB.out.cell (World.block_lt_of_cell? w _ hx237_0)).trans hx237_0
           replace p237 := eq_true p237
           replace q237 := eq_true q237
           go_wp2_with (first | ((with_reducible refine gate_callee (f := 106) rfl ?_); refine goesL_ (some 22) rfl rfl Tryd.func106 (by kernel_rfl) rfl #[.string (rdOf ByteArray.empty l1 x16_1), .string (⟨#[61]⟩ : ByteArray)] rfl am ?_; (with_reducible refine (strings_Cut.calls (hG := by first | exact hG | exact Glob.below hG (by first | exact HB.out | (repeat (first | (with_reducible first | exact HB.out | apply below_alloc | apply pw_below_drewN | apply below_drew1 | refine below_set ?_ GE235.out | refine below_set ?_ GE236.out) | exact HB.out))) | exact Glob.drawn hG (by repeat (first | exact Drawn0.refl _ | apply Drawn0.step))) (rdOf ByteArray.empty l1 x16_1) (⟨#[61]⟩ : ByteArray) t238 t239 t240 _ A8.out).mono ?_); rintro e w41 ⟨rfl, hb⟩; refine ⟨_, rfl, ?_⟩; have n0_ := Aside0.mk (blk_below (g := gb235) (o := .cells #[.string a0_0, .string a0_1, .bool a0_2, .int .i64 x236003_1] 77 (0, 0)) bk hb); have n1_ := Aside0.mk (blk_below (g := gb236) (o := .cells #[.string x237000_1, .string x237001_1, .bool x237002_1, .int .i64 x237003_1] 77 (0, 0)) bk hb); have n2_ := Aside0.mk (below_step (by repeat (first | (with_reducible first | exact HB.out | apply below_alloc | apply pw_below_drewN | apply below_drew1 | refine below_set ?_ GE235.out | refine below_set ?_ GE236.out) | exact HB.out)) hb); clear BK235; clear BK236; clear HB; have BK235 := n0_; have BK236 := n1_; have HB := n2_; clear n0_ n1_ n2_; (try clear hb); (try clear hb2); (try clear hk); (try clear hi)) | ((with_reducible refine gate_callee (f := 99) rfl ?_); refine goesL_ (some 27) rfl rfl Tryd.func99 (by kernel_rfl) rfl #[.string t238] rfl am ?_; (with_reducible refine (glyph_Fold.calls t238 t241 _ A9.out).mono ?_); rintro e w42 ⟨rfl, hb⟩; refine ⟨_, rfl, ?_⟩; have n0_ := Aside0.mk (blk_below (g := gb235) (o := .cells #[.string a0_0, .string a0_1, .bool a0_2, .int .i64 x236003_1] 77 (0, 0)) bk hb); have n1_ := Aside0.mk (blk_below (g := gb236) (o := .cells #[.string x237000_1, .string x237001_1, .bool x237002_1, .int .i64 x237003_1] 77 (0, 0)) bk hb); have n2_ := Aside0.mk (below_step (by repeat (first | (with_reducible first | exact HB.out | apply below_alloc | apply pw_below_drewN | apply below_drew1 | refine below_set ?_ GE235.out | refine below_set ?_ GE236.out) | exact HB.out)) hb); clear BK235; clear BK236; clear HB; have BK235 := n0_; have BK236 := n1_; have HB := n2_; clear n0_ n1_ n2_; (try clear hb); (try clear hb2); (try clear hk); (try clear hi)) | ((with_reducible refine gate_callee (f := 99) rfl ?_); refine goesL_ (some 43) rfl rfl Tryd.func99 (by kernel_rfl) rfl #[.string t239] rfl am ?_; (with_reducible refine (glyph_Fold.calls t239 t243 _ A29.out).mono ?_); rintro e w43 ⟨rfl, hb⟩; refine ⟨_, rfl, ?_⟩; have n0_ := Aside0.mk (blk_below (g := gb235) (o := .cells #[.string a0_0, .string a0_1, .bool a0_2, .int .i64 x236003_1] 77 (0, 0)) bk hb); have n1_ := Aside0.mk (blk_below (g := gb236) (o := .cells #[.string x237000_1, .string x237001_1, .bool x237002_1, .int .i64 x237003_1] 77 (0, 0)) bk hb); have n2_ := Aside0.mk (below_step (by repeat (first | (with_reducible first | exact HB.out | apply below_alloc | apply pw_below_drewN | apply below_drew1 | refine below_set ?_ GE235.out | refine below_set ?_ GE236.out) | exact HB.out)) hb); clear BK235; clear BK236; clear HB; have BK235 := n0_; have BK236 := n1_; have HB := n2_; clear n0_ n1_ n2_; (try clear hb); (try clear hb2); (try clear hk); (try clear hi)))
           go_roundg k1
           case measure => have := HK1.out; omega
           case rel => exact ⟨(x6_1), (true), (wrap64 (x16_1 + 1)), (x236003_1), (x237000_1), (x237001_1), (x237002_1), (x237003_1), cl, cl, cl, H', ⟨by have := HK1.out; omega⟩, ⟨by (with_reducible repeat (first | refine blk_drewN ?_ _ | refine blk_drew ?_ | refine blk_alloc ?_ _)); exact BK235.out⟩, ⟨by (with_reducible repeat (first | refine blk_drewN ?_ _ | refine blk_drew ?_ | refine blk_alloc ?_ _)); exact BK236.out⟩, ⟨by repeat (first | (with_reducible first | exact HB.out | apply below_alloc | apply pw_below_drewN | apply below_drew1 | refine below_set ?_ GE235.out | refine below_set ?_ GE236.out) | exact HB.out)⟩⟩
          ·rw [if_neg c40] at H
           have c40b0 : (t243.toList == ([56, 98, 105, 116, 109, 105, 109, 101] : List UInt8)) = false := beq_eq_false_iff_ne.mpr c40
           have c40b1 : (t243.toList != ([56, 98, 105, 116, 109, 105, 109, 101] : List UInt8)) = true := bne_iff_ne.mpr c40
           simp only [Option.some.injEq, Prod.mk.injEq] at H
           obtain ⟨rfl, rfl, rfl, rfl, rfl⟩ := H
           have p237 : 0 ≤ (x16_1 : Int) := od
           have q237 : x16_1 < (l1.length : Int) := od
           obtain ⟨ad237, e237, hx237_0⟩ := Kd.at_string HR1.out x16_1 p237 q237
           cases e237
           replace hx237_0 := (HB.out.cell (World.block_lt_of_cell? w _ hx237_0)).trans hx237_0
           replace p237 := eq_true p237
           replace q237 := eq_true q237
           go_wp2_with (first | ((with_reducible refine gate_callee (f := 106) rfl ?_); refine goesL_ (some 22) rfl rfl Tryd.func106 (by kernel_rfl) rfl #[.string (rdOf ByteArray.empty l1 x16_1), .string (⟨#[61]⟩ : ByteArray)] rfl am ?_; (with_reducible refine (strings_Cut.calls (hG := by first | exact hG | exact Glob.below hG (by first | exact HB.out | (repeat (first | (with_reducible first | exact HB.out | apply below_alloc | apply pw_below_drewN | apply below_drew1 | refine below_set ?_ GE235.out | refine below_set ?_ GE236.out) | exact HB.out))) | exact Glob.drawn hG (by repeat (first | exact Drawn0.refl _ | apply Drawn0.step))) (rdOf ByteArray.empty l1 x16_1) (⟨#[61]⟩ : ByteArray) t238 t239 t240 _ A8.out).mono ?_); rintro e w44 ⟨rfl, hb⟩; refine ⟨_, rfl, ?_⟩; have n0_ := Aside0.mk (blk_below (g := gb235) (o := .cells #[.string a0_0, .string a0_1, .bool a0_2, .int .i64 x236003_1] 77 (0, 0)) bk hb); have n1_ := Aside0.mk (blk_below (g := gb236) (o := .cells #[.string x237000_1, .string x237001_1, .bool x237002_1, .int .i64 x237003_1] 77 (0, 0)) bk hb); have n2_ := Aside0.mk (below_step (by repeat (first | (with_reducible first | exact HB.out | apply below_alloc | apply pw_below_drewN | apply below_drew1 | refine below_set ?_ GE235.out | refine below_set ?_ GE236.out) | exact HB.out)) hb); clear BK235; clear BK236; clear HB; have BK235 := n0_; have BK236 := n1_; have HB := n2_; clear n0_ n1_ n2_; (try clear hb); (try clear hb2); (try clear hk); (try clear hi)) | ((with_reducible refine gate_callee (f := 99) rfl ?_); refine goesL_ (some 27) rfl rfl Tryd.func99 (by kernel_rfl) rfl #[.string t238] rfl am ?_; (with_reducible refine (glyph_Fold.calls t238 t241 _ A9.out).mono ?_); rintro e w45 ⟨rfl, hb⟩; refine ⟨_, rfl, ?_⟩; have n0_ := Aside0.mk (blk_below (g := gb235) (o := .cells #[.string a0_0, .string a0_1, .bool a0_2, .int .i64 x236003_1] 77 (0, 0)) bk hb); have n1_ := Aside0.mk (blk_below (g := gb236) (o := .cells #[.string x237000_1, .string x237001_1, .bool x237002_1, .int .i64 x237003_1] 77 (0, 0)) bk hb); have n2_ := Aside0.mk (below_step (by repeat (first | (with_reducible first | exact HB.out | apply below_alloc | apply pw_below_drewN | apply below_drew1 | refine below_set ?_ GE235.out | refine below_set ?_ GE236.out) | exact HB.out)) hb); clear BK235; clear BK236; clear HB; have BK235 := n0_; have BK236 := n1_; have HB := n2_; clear n0_ n1_ n2_; (try clear hb); (try clear hb2); (try clear hk); (try clear hi)) | ((with_reducible refine gate_callee (f := 99) rfl ?_); refine goesL_ (some 43) rfl rfl Tryd.func99 (by kernel_rfl) rfl #[.string t239] rfl am ?_; (with_reducible refine (glyph_Fold.calls t239 t243 _ A29.out).mono ?_); rintro e w46 ⟨rfl, hb⟩; refine ⟨_, rfl, ?_⟩; have n0_ := Aside0.mk (blk_below (g := gb235) (o := .cells #[.string a0_0, .string a0_1, .bool a0_2, .int .i64 x236003_1] 77 (0, 0)) bk hb); have n1_ := Aside0.mk (blk_below (g := gb236) (o := .cells #[.string x237000_1, .string x237001_1, .bool x237002_1, .int .i64 x237003_1] 77 (0, 0)) bk hb); have n2_ := Aside0.mk (below_step (by repeat (first | (with_reducible first | exact HB.out | apply below_alloc | apply pw_below_drewN | apply below_drew1 | refine below_set ?_ GE235.out | refine below_set ?_ GE236.out) | exact HB.out)) hb); clear BK235; clear BK236; clear HB; have BK235 := n0_; have BK236 := n1_; have HB := n2_; clear n0_ n1_ n2_; (try clear hb); (try clear hb2); (try clear hk); (try clear hi); have hnb47 := NB236_235.out; have hnc47 := NB235_236.out; have hcz48_0 : w46.cell? ⟨gb236, 0, none⟩ = some (.string x237000_1) := (blk_cell BK236.out 0).trans rfl; have hcz48_1 : w46.cell? ⟨gb236, 1, none⟩ = some (.string x237001_1) := (blk_cell BK236.out 1).trans rfl; have hcz48_2 : w46.cell? ⟨gb236, 2, none⟩ = some (.bool x237002_1) := (blk_cell BK236.out 2).trans rfl; have hcz48_3 : w46.cell? ⟨gb236, 3, none⟩ = some (.int .i64 x237003_1) := (blk_cell BK236.out 3).trans rfl; have hfz48_0 := blk_frozen BK236.out 0; have hfz48_1 := blk_frozen BK236.out 1; have hfz48_2 := blk_frozen BK236.out 2; have hfz48_3 := blk_frozen BK236.out 3))
           refine bodyPost_ret (results_ct rfl _ _ gb236 77 #[.string (⟨#[]⟩ : ByteArray), .string (⟨#[]⟩ : ByteArray), .bool false, .int .i64 0] (0, 0) _ rfl (by (with_reducible repeat (first | refine blk_drewN ?_ _ | refine blk_drew ?_ | refine blk_alloc ?_ _)); refine blk_put (cs := #[.string (⟨#[]⟩ : ByteArray), .string (⟨#[]⟩ : ByteArray), .bool false, .int .i64 x237003_1]) ?_ 3 _ rfl; (with_reducible repeat (first | refine blk_drewN ?_ _ | refine blk_drew ?_ | refine blk_alloc ?_ _)); refine blk_put (cs := #[.string (⟨#[]⟩ : ByteArray), .string (⟨#[]⟩ : ByteArray), .bool x237002_1, .int .i64 x237003_1]) ?_ 2 _ rfl; (with_reducible repeat (first | refine blk_drewN ?_ _ | refine blk_drew ?_ | refine blk_alloc ?_ _)); refine blk_put (cs := #[.string (⟨#[]⟩ : ByteArray), .string x237001_1, .bool x237002_1, .int .i64 x237003_1]) ?_ 1 _ rfl; (with_reducible repeat (first | refine blk_drewN ?_ _ | refine blk_drew ?_ | refine blk_alloc ?_ _)); refine blk_put (cs := #[.string x237000_1, .string x237001_1, .bool x237002_1, .int .i64 x237003_1]) ?_ 0 _ rfl; (with_reducible repeat (first | refine blk_drewN ?_ _ | refine blk_drew ?_ | refine blk_alloc ?_ _)); exact BK236.out) Tryd.underlying77 rfl (by kernel_rfl)) rfl ?_
           exact ⟨by first | rfl | (simp [errW_none, errW_some] <;> rfl) | (simp [*, errW_none, errW_some] <;> rfl), by repeat (first | (with_reducible first | exact HB.out | apply below_alloc | apply pw_below_drewN | apply below_drew1 | refine below_set ?_ GE235.out | refine below_set ?_ GE236.out) | exact HB.out)⟩
       ·rw [if_neg c28] at H
        have c28b0 : (t241.toList == ([98, 111, 100, 121] : List UInt8)) = false := beq_eq_false_iff_ne.mpr c28
        have c28b1 : (t241.toList != ([98, 111, 100, 121] : List UInt8)) = true := bne_iff_ne.mpr c28
        simp only [Option.some.injEq, Prod.mk.injEq] at H
        obtain ⟨rfl, rfl, rfl, rfl, rfl⟩ := H
        have p237 : 0 ≤ (x16_1 : Int) := od
        have q237 : x16_1 < (l1.length : Int) := od
        obtain ⟨ad237, e237, hx237_0⟩ := Kd.at_string HR1.out x16_1 p237 q237
        cases e237
        replace hx237_0 := (HB.out.cell (World.block_lt_of_cell? w _ hx237_0)).trans hx237_0
        replace p237 := eq_true p237
        replace q237 := eq_true q237
        go_wp2_with (first | ((with_reducible refine gate_callee (f := 106) rfl ?_); refine goesL_ (some 22) rfl rfl Tryd.func106 (by kernel_rfl) rfl #[.string (rdOf ByteArray.empty l1 x16_1), .string (⟨#[61]⟩ : ByteArray)] rfl am ?_; (with_reducible refine (strings_Cut.calls (hG := by first | exact hG | exact Glob.below hG (by first | exact HB.out | (repeat (first | (with_reducible first | exact HB.out | apply below_alloc | apply pw_below_drewN | apply below_drew1 | refine below_set ?_ GE235.out | refine below_set ?_ GE236.out) | exact HB.out))) | exact Glob.drawn hG (by repeat (first | exact Drawn0.refl _ | apply Drawn0.step))) (rdOf ByteArray.empty l1 x16_1) (⟨#[61]⟩ : ByteArray) t238 t239 t240 _ A8.out).mono ?_); rintro e w49 ⟨rfl, hb⟩; refine ⟨_, rfl, ?_⟩; have n0_ := Aside0.mk (blk_below (g := gb235) (o := .cells #[.string a0_0, .string a0_1, .bool a0_2, .int .i64 x236003_1] 77 (0, 0)) bk hb); have n1_ := Aside0.mk (blk_below (g := gb236) (o := .cells #[.string x237000_1, .string x237001_1, .bool x237002_1, .int .i64 x237003_1] 77 (0, 0)) bk hb); have n2_ := Aside0.mk (below_step (by repeat (first | (with_reducible first | exact HB.out | apply below_alloc | apply pw_below_drewN | apply below_drew1 | refine below_set ?_ GE235.out | refine below_set ?_ GE236.out) | exact HB.out)) hb); clear BK235; clear BK236; clear HB; have BK235 := n0_; have BK236 := n1_; have HB := n2_; clear n0_ n1_ n2_; (try clear hb); (try clear hb2); (try clear hk); (try clear hi)) | ((with_reducible refine gate_callee (f := 99) rfl ?_); refine goesL_ (some 27) rfl rfl Tryd.func99 (by kernel_rfl) rfl #[.string t238] rfl am ?_; (with_reducible refine (glyph_Fold.calls t238 t241 _ A9.out).mono ?_); rintro e w50 ⟨rfl, hb⟩; refine ⟨_, rfl, ?_⟩; have n0_ := Aside0.mk (blk_below (g := gb235) (o := .cells #[.string a0_0, .string a0_1, .bool a0_2, .int .i64 x236003_1] 77 (0, 0)) bk hb); have n1_ := Aside0.mk (blk_below (g := gb236) (o := .cells #[.string x237000_1, .string x237001_1, .bool x237002_1, .int .i64 x237003_1] 77 (0, 0)) bk hb); have n2_ := Aside0.mk (below_step (by repeat (first | (with_reducible first | exact HB.out | apply below_alloc | apply pw_below_drewN | apply below_drew1 | refine below_set ?_ GE235.out | refine below_set ?_ GE236.out) | exact HB.out)) hb); clear BK235; clear BK236; clear HB; have BK235 := n0_; have BK236 := n1_; have HB := n2_; clear n0_ n1_ n2_; (try clear hb); (try clear hb2); (try clear hk); (try clear hi); have hnb51 := NB236_235.out; have hnc51 := NB235_236.out; have hcz52_0 : w50.cell? ⟨gb236, 0, none⟩ = some (.string x237000_1) := (blk_cell BK236.out 0).trans rfl; have hcz52_1 : w50.cell? ⟨gb236, 1, none⟩ = some (.string x237001_1) := (blk_cell BK236.out 1).trans rfl; have hcz52_2 : w50.cell? ⟨gb236, 2, none⟩ = some (.bool x237002_1) := (blk_cell BK236.out 2).trans rfl; have hcz52_3 : w50.cell? ⟨gb236, 3, none⟩ = some (.int .i64 x237003_1) := (blk_cell BK236.out 3).trans rfl; have hfz52_0 := blk_frozen BK236.out 0; have hfz52_1 := blk_frozen BK236.out 1; have hfz52_2 := blk_frozen BK236.out 2; have hfz52_3 := blk_frozen BK236.out 3))
        refine bodyPost_ret (results_ct rfl _ _ gb236 77 #[.string (⟨#[]⟩ : ByteArray), .string (⟨#[]⟩ : ByteArray), .bool false, .int .i64 0] (0, 0) _ rfl (by (with_reducible repeat (first | refine blk_drewN ?_ _ | refine blk_drew ?_ | refine blk_alloc ?_ _)); refine blk_put (cs := #[.string (⟨#[]⟩ : ByteArray), .string (⟨#[]⟩ : ByteArray), .bool false, .int .i64 x237003_1]) ?_ 3 _ rfl; (with_reducible repeat (first | refine blk_drewN ?_ _ | refine blk_drew ?_ | refine blk_alloc ?_ _)); refine blk_put (cs := #[.string (⟨#[]⟩ : ByteArray), .string (⟨#[]⟩ : ByteArray), .bool x237002_1, .int .i64 x237003_1]) ?_ 2 _ rfl; (with_reducible repeat (first | refine blk_drewN ?_ _ | refine blk_drew ?_ | refine blk_alloc ?_ _)); refine blk_put (cs := #[.string (⟨#[]⟩ : ByteArray), .string x237001_1, .bool x237002_1, .int .i64 x237003_1]) ?_ 1 _ rfl; (with_reducible repeat (first | refine blk_drewN ?_ _ | refine blk_drew ?_ | refine blk_alloc ?_ _)); refine blk_put (cs := #[.string x237000_1, .string x237001_1, .bool x237002_1, .int .i64 x237003_1]) ?_ 0 _ rfl; (with_reducible repeat (first | refine blk_drewN ?_ _ | refine blk_drew ?_ | refine blk_alloc ?_ _)); exact BK236.out) Tryd.underlying77 rfl (by kernel_rfl)) rfl ?_
        exact ⟨by first | rfl | (simp [errW_none, errW_some] <;> rfl) | (simp [*, errW_none, errW_some] <;> rfl), by repeat (first | (with_reducible first | exact HB.out | apply below_alloc | apply pw_below_drewN | apply below_drew1 | refine below_set ?_ GE235.out | refine below_set ?_ GE236.out) | exact HB.out)⟩
     ·rw [if_neg c7] at H
      exact absurd H (by simp)
    ·rw [if_neg c6] at H
     exact absurd H (by simp)
   ·rw [if_neg c5] at H
    have c5b0 : decide (x16_1 < (l1.length : Int)) = false := decide_eq_false c5
    clear c5
    simp only [Option.some.injEq, Prod.mk.injEq] at H
    obtain ⟨rfl, rfl, rfl, rfl, rfl⟩ := H
    have hnb53 := NB235_236.out
    have hnc53 := NB236_235.out
    have hcz54_0 : wr.cell? ⟨gb235, 0, none⟩ = some (.string a0_0) := (blk_cell BK235.out 0).trans rfl
    have hcz54_1 : wr.cell? ⟨gb235, 1, none⟩ = some (.string a0_1) := (blk_cell BK235.out 1).trans rfl
    have hcz54_2 : wr.cell? ⟨gb235, 2, none⟩ = some (.bool a0_2) := (blk_cell BK235.out 2).trans rfl
    have hcz54_3 : wr.cell? ⟨gb235, 3, none⟩ = some (.int .i64 x236003_1) := (blk_cell BK235.out 3).trans rfl
    have hfz54_0 := blk_frozen BK235.out 0
    have hfz54_1 := blk_frozen BK235.out 1
    have hfz54_2 := blk_frozen BK235.out 2
    have hfz54_3 := blk_frozen BK235.out 3
    have hcz55_0 : wr.cell? ⟨gb236, 0, none⟩ = some (.string x237000_1) := (blk_cell BK236.out 0).trans rfl
    have hcz55_1 : wr.cell? ⟨gb236, 1, none⟩ = some (.string x237001_1) := (blk_cell BK236.out 1).trans rfl
    have hcz55_2 : wr.cell? ⟨gb236, 2, none⟩ = some (.bool x237002_1) := (blk_cell BK236.out 2).trans rfl
    have hcz55_3 : wr.cell? ⟨gb236, 3, none⟩ = some (.int .i64 x237003_1) := (blk_cell BK236.out 3).trans rfl
    have hfz55_0 := blk_frozen BK236.out 0
    have hfz55_1 := blk_frozen BK236.out 1
    have hfz55_2 := blk_frozen BK236.out 2
    have hfz55_3 := blk_frozen BK236.out 3
    go_wp2
    refine bodyPost_ret (results_ct rfl _ _ gb236 77 #[.string a0_0, .string a0_1, .bool a0_2, .int .i64 x236003_1] (0, 0) _ rfl (by (with_reducible repeat (first | refine blk_drewN ?_ _ | refine blk_drew ?_ | refine blk_alloc ?_ _)); refine blk_put (cs := #[.string a0_0, .string a0_1, .bool a0_2, .int .i64 x237003_1]) ?_ 3 _ rfl; (with_reducible repeat (first | refine blk_drewN ?_ _ | refine blk_drew ?_ | refine blk_alloc ?_ _)); refine blk_put (cs := #[.string a0_0, .string a0_1, .bool x237002_1, .int .i64 x237003_1]) ?_ 2 _ rfl; (with_reducible repeat (first | refine blk_drewN ?_ _ | refine blk_drew ?_ | refine blk_alloc ?_ _)); refine blk_put (cs := #[.string a0_0, .string x237001_1, .bool x237002_1, .int .i64 x237003_1]) ?_ 1 _ rfl; (with_reducible repeat (first | refine blk_drewN ?_ _ | refine blk_drew ?_ | refine blk_alloc ?_ _)); refine blk_put (cs := #[.string x237000_1, .string x237001_1, .bool x237002_1, .int .i64 x237003_1]) ?_ 0 _ rfl; (with_reducible repeat (first | refine blk_drewN ?_ _ | refine blk_drew ?_ | refine blk_alloc ?_ _)); exact BK236.out) Tryd.underlying77 rfl (by kernel_rfl)) rfl ?_
    exact ⟨by first | rfl | (simp [errW_none, errW_some] <;> rfl) | (simp [*, errW_none, errW_some] <;> rfl), by repeat (first | (with_reducible first | exact HB.out | apply below_alloc | apply pw_below_drewN | apply below_drew1 | refine below_set ?_ GE235.out | refine below_set ?_ GE236.out) | exact HB.out)⟩

end Go.Proofs.YtgaaogijfikfeaaDoor.Fn
set_option linter.unusedVariables false
namespace Go.Proofs.YtgaaogijfikfeaaDoor.Fn
open Go.RowKit Go.Shelf Go.Proofs.YtgaaogijfikfeaaDoorW.PrintWords

/-! Rows of a call's own inside a range over a function. -/
theorem R_walk {α : Type} {d : Kd α} {e base : Nat} {ok : Nat → Prop} {A B : World} {row : Option Nat} {v : Value} {xs : List α} (h : d.R e A base ok v xs) (hg : A.grownBy B row) (hr : ∀ r, row = some r → ∃ o : Obj, A.heap[r]? = some o ∧ o.isCells = false) : d.R e B base ok v xs :=
  Kd.R_mono (Kd.R_move (Kd.R_bound h) (fun k hk => by
    obtain ⟨_, _, hlt, q, _, cells, hc⟩ := hk
    refine hg.block k hlt (fun e => ?_)
    obtain ⟨o, ho, hn⟩ := hr k e.symm
    rw [hc] at ho
    cases ho
    simp [Obj.isCells] at hn)) (fun k hk => hk.1)
theorem R_append_in {α : Type} (d : Kd α) {F : Fence} {n : Nat} {P : Program} {ops : Array Oper} {rest : List Oper} {o : Oper} {a : Act} {Q : Exit → Act → World → Prop} {w0 W : World} (base : Nat) (hgd : o.guard = none) (s x : Operand) (t e : TypeId) (z : Value) (bytes : Nat)
    (ho : o.op = .call { callee := .builtin .append, args := #[s, x], argTypes := #[t, t] })
    (ht : P.underlying t = some (.slice e)) (hinfo : (P.info? e).map (fun i => (i.zero, i.size, i.bytes)) = some (some z, d.sz, bytes)) (hz : z.cells.size = d.sz) (hs0 : 0 < d.sz) (hb0 : 0 < bytes)
    (v : Value) (xs : List α) (p : α) (cs : List Value) (ok okp : Nat → Prop) (hs : a.eval s = v) (hx : a.eval x = .slice (some ⟨W.heap.size, 0, none⟩) 1 1) (hp : d.M W base okp p cs) (hokp : ∀ k, okp k → ok k ∧ some k ≠ v.ownBlock) (hfresh : ∀ k, W.heap.size ≤ k → ok k)
    (HO : d.R e W base ok v xs) (HB : Below base w0 W) (hbase : base ≤ W.heap.size) (hl : (xs.length + 1) * bytes ≤ 140737488355328)
    (h : ∀ v1 w1, d.R e w1 base ok v1 (xs ++ [p]) → Below base w0 w1 → W.grownBy w1 v.ownBlock → (v1.ownBlock = v.ownBlock ∨ ∃ b, v1.ownBlock = some b ∧ W.heap.size ≤ b) → wpListIn F n P ops Q rest (a.put o.dst v1) w1) :
    wpListIn F n P ops Q (o :: rest) a (W.alloc (.cells cs.toArray e)) := by
  obtain ⟨h0, inner, hown, hr⟩ := HO
  obtain ⟨i0, hi, hzz⟩ := Option.map_eq_some_iff.1 hinfo
  simp only [Prod.mk.injEq] at hzz
  obtain ⟨hz0, hz1, hz2⟩ := hzz
  have hlen : xs.length + 1 ≤ 140737488355328 := Nat.le_trans (Nat.le_mul_of_pos_right _ hb0) hl
  have hys : cs.length = d.sz := d.K_len (d.K_of_M hp)
  refine wpListIn_plain hgd fun K hK => ?_
  obtain ⟨v1, w1, hrun, g1, g2, g3, g4⟩ := run_append_own_at (P := P) (w := W.alloc (.cells cs.toArray e)) base t o.type e i0 z d.sz bytes ht hi hz0 hz1 hz2 hz hs0 v xs.length inner (hown.alloc _) ⟨W.heap.size, 0, none⟩ 1 1 cs (by rw [hys]; simp)
    (by simpa using World.news_of_block (cs := cs.toArray) (t := e) (fr := (0, 0)) (heap_alloc_new W (.cells cs.toArray e))) (d.K_one (d.K_of_M hp)) (by simp only [maxLen]; omega) hl (by simp; omega)
  have g5 : v1.ownBlock = v.ownBlock ∨ ∃ b, v1.ownBlock = some b ∧ W.heap.size ≤ b := by
    rcases g4 with g4 | g4
    · exact .inl g4
    · exact .inr ⟨_, g4, by simp⟩
  have g6 : W.grownBy w1 v.ownBlock := World.grownBy.trans (World.grownBy_alloc W _ _) g2
  unfold Oper.wpIn
  refine ⟨?_, ?_⟩
  · simp [Oper.about, ho, resolve, Target.leads, Sem.run_pure]
  · rw [Oper.semAt_plain F _ _ (by rw [ho]; intro c hc'; cases hc')]
    simp [execOp, ho, resolve, invoke, builtin, hs, hx, hrun, Result.andThen]
    exact hK _ _ (h v1 w1 (Kd.R_appended h0 hr hp hokp hfresh g1 g6 g5) ((HB.alloc hbase _).grown g2 (by simp; omega) (own_base hown)) g6 g5)
end Go.Proofs.YtgaaogijfikfeaaDoor.Fn
set_option linter.unusedVariables false
namespace Go.Proofs.YtgaaogijfikfeaaDoor.Fn
open Go.RowKit Go.Shelf Go.Proofs.YtgaaogijfikfeaaDoorW.PrintWords

/-! Two rows of texts of the call's own, neither one the other; what a step does to blocks. -/
theorem keepsOthers_grown {W W' : World} {row : Option Nat} (h : W.grownBy W' row) (hr : ∀ k, row = some k → ∃ o : Obj, W.heap[k]? = some o ∧ o.isCells = true) : KeepsOthers W W' :=
  ⟨h.size, fun k o hk hn => (h.block k (Array.getElem?_eq_some_iff.1 hk).1 (fun e => by obtain ⟨o', ho, hc⟩ := hr k e.symm; rw [hk] at ho; cases ho; rw [hc] at hn; cases hn)).trans hk⟩
theorem R_cells {α : Type} {d : Kd α} {e base : Nat} {ok : Nat → Prop} {A : World} {v : Value} {xs : List α} (h : d.R e A base ok v xs) : ∀ k, v.ownBlock = some k → ∃ o : Obj, A.heap[k]? = some o ∧ o.isCells = true := fun k hk => by
  obtain ⟨inner, ho⟩ := Kd.R_own h
  obtain ⟨cells, hc⟩ := own_typed ho k hk
  exact ⟨_, hc, rfl⟩
theorem R_base {α : Type} {d : Kd α} {e base : Nat} {ok : Nat → Prop} {A : World} {v : Value} {xs : List α} (h : d.R e A base ok v xs) : ∀ k, v.ownBlock = some k → base ≤ k := fun k hk => by
  obtain ⟨inner, ho⟩ := Kd.R_own h
  exact own_base ho k hk
theorem two_set {W : World} {b : Nat} {x x0 y y0 : Value} (h0 : W.cell? ⟨b, 0, none⟩ = some x0) (h1 : W.cell? ⟨b + 1, 0, none⟩ = some y0) :
    ((W.setCell ⟨b, 0, none⟩ x).setCell ⟨b + 1, 0, none⟩ y).cell? ⟨b, 0, none⟩ = some x ∧ ((W.setCell ⟨b, 0, none⟩ x).setCell ⟨b + 1, 0, none⟩ y).cell? ⟨b + 1, 0, none⟩ = some y := by
  have e0 : (W.setCell ⟨b, 0, none⟩ x).cell? ⟨b, 0, none⟩ = some x := World.cell?_setCell_same' _ _ _ (by rw [h0]; rfl)
  have e1 : (W.setCell ⟨b, 0, none⟩ x).cell? ⟨b + 1, 0, none⟩ = some y0 := (World.cell?_setCell_other _ _ _ _ (by simp)).trans h1
  exact ⟨(World.cell?_setCell_other _ _ _ _ (by simp)).trans e0, World.cell?_setCell_same' _ _ _ (by rw [e1]; rfl)⟩
theorem below_two {n : Nat} {w W : World} {b : Nat} {x y : Value} (h : Below n w W) (hb : n ≤ b) : Below n w ((W.setCell ⟨b, 0, none⟩ x).setCell ⟨b + 1, 0, none⟩ y) :=
  (h.setCell (p := ⟨b, 0, none⟩) hb _).setCell (p := ⟨b + 1, 0, none⟩) (by show n ≤ b + 1; omega) _
theorem keeps_two {W : World} {b : Nat} {x y : Value} : KeepsOthers W ((W.setCell ⟨b, 0, none⟩ x).setCell ⟨b + 1, 0, none⟩ y) := (KeepsOthers.setCell _ _ _).trans (KeepsOthers.setCell _ _ _)
theorem prefix_len {α : Type} {pre xs : List α} {x : α} (h : pre ++ [x] <+: xs) : pre.length + 1 ≤ xs.length := by
  have := h.length_le
  simpa using this
theorem cutsN_len (find : ByteArray → Int) (L : Nat) : ∀ (k : Nat) (s : ByteArray), (cutsN find L k s).length ≤ k + 1
  | 0, s => by simp [cutsN]
  | k + 1, s => by
    rw [cutsN]
    split
    · simp
    · have := cutsN_len find L k (s.extract ((find s).toNat + L) s.size)
      simp only [List.length_cons]
      omega
structure Two (h B : Nat) (W : World) (vo vl : Value) (out lines : List ByteArray) : Prop where
  o : Kd.R Kd.string 9 W h (fun k => B < k ∧ some k ≠ vl.ownBlock) vo out
  l : Kd.R Kd.string 9 W h (fun k => B < k ∧ some k ≠ vo.ownBlock) vl lines
theorem Two.nil (h B : Nat) (W : World) : Two h B W (.slice none 0 0) (.slice none 0 0) [] [] := ⟨Kd.R_nil _ _ _ _ _, Kd.R_nil _ _ _ _ _⟩
theorem Two.below {h B : Nat} {W W' : World} {vo vl : Value} {out lines : List ByteArray} (t : Two h B W vo vl out lines) (hb : Below W.heap.size W W') : Two h B W' vo vl out lines := ⟨Kd.R_below t.o hb, Kd.R_below t.l hb⟩
theorem Two.walk {h B : Nat} {A C : World} {row : Option Nat} {vo vl : Value} {out lines : List ByteArray} (t : Two h B A vo vl out lines) (hg : A.grownBy C row) (hr : ∀ r, row = some r → ∃ o : Obj, A.heap[r]? = some o ∧ o.isCells = false) : Two h B C vo vl out lines := ⟨R_walk t.o hg hr, R_walk t.l hg hr⟩
theorem Two.set {h B : Nat} {W : World} {vo vl : Value} {out lines : List ByteArray} (t : Two h B W vo vl out lines) {p : Addr} (hp : p.block ≤ B) (u : Value) : Two h B (W.setCell p u) vo vl out lines :=
  ⟨Kd.R_far t.o (fun k hk => by have := hk.1; omega) u, Kd.R_far t.l (fun k hk => by have := hk.1; omega) u⟩
end Go.Proofs.YtgaaogijfikfeaaDoor.Fn
-- written by xprint.py of this session over the kit's printer; not trusted: Lean checks it
namespace Go.Proofs.YtgaaogijfikfeaaDoor.Fn
open Go.RowKit Go.Proofs.YtgaaogijfikfeaaDoorW.PrintWords Go.Proofs.YtgaaogijfikfeaaDoorW.PrintLast Go.Proofs.YtgaaogijfikfeaaDoorW.PrintMore
attribute [local go_sem] max2_int min2_int max_two min_two max_three min_three max_four min_four   -- for this text's walks alone
set_option linter.unusedVariables false
set_option linter.unusedSimpArgs false

/-! ### addr_Domain: function 51 -/
def addr_Domain.f (a0 : ByteArray) : Option (ByteArray × Int) := (addr_domain.f a0).bind fun t135 => (if t135 = 0 then ((glyph_Fold.f a0).bind fun t136 => (some (t136, 0))) else (some ((⟨#[]⟩ : ByteArray), t135)))
set_option maxHeartbeats 8000000 in
set_option maxRecDepth 100000 in
theorem addr_Domain.calls (a0 : ByteArray) (r1 : ByteArray) (r2 : Int) (w : World) (h : addr_Domain.f a0 = some (r1, r2)) :
  Calls Tryd.prog 51 #[.string a0] w fun e w' => e = .returned (.tuple #[.string r1, .int .i64 r2]) ∧ Below w.heap.size w w' := by
 have HB := Aside0.mk (Below.refl w.heap.size w)
 have H : ((addr_domain.f a0).bind fun t135 => (if t135 = 0 then ((glyph_Fold.f a0).bind fun t136 => (some (t136, 0))) else (some ((⟨#[]⟩ : ByteArray), t135)))) = some (r1, r2) := h
 clear h
 replace H := Option.bind_eq_some_iff.mp H
 obtain ⟨t135, A20, H⟩ := H
 replace H : (if t135 = 0 then ((glyph_Fold.f a0).bind fun t136 => (some (t136, 0))) else (some ((⟨#[]⟩ : ByteArray), t135))) = some (r1, r2) := H
 have A2 := Aside0.mk A20
 clear A20
 by_cases c3 : t135 = 0
 ·rw [if_pos c3] at H
  have c3b0 : (t135 == 0) = true := beq_iff_eq.mpr c3
  have c3b1 : (t135 != 0) = false := bne_eq_false_iff_eq.mpr c3
  clear c3
  replace H := Option.bind_eq_some_iff.mp H
  obtain ⟨t136, A40, H⟩ := H
  replace H : (some (t136, 0)) = some (r1, r2) := H
  have A4 := Aside0.mk A40
  clear A40
  simp only [Option.some.injEq, Prod.mk.injEq] at H
  obtain ⟨rfl, rfl⟩ := H
  go_enter Tryd.func51, Tryd.ntmps51
  go_wp2_with (first | ((with_reducible refine gate_callee (f := 103) rfl ?_); refine goesL_ (some 6) rfl rfl Tryd.func103 (by kernel_rfl) rfl #[.string a0] rfl am ?_; (with_reducible refine (addr_domain.calls a0 t135 _ A2.out).mono ?_); rintro e w5 ⟨rfl, hb⟩; refine ⟨_, rfl, ?_⟩; have n0_ := Aside0.mk (below_step bw hb); clear HB; have HB := n0_; clear n0_; (try clear hb); (try clear hb2); (try clear hk); (try clear hi)) | ((with_reducible refine gate_callee (f := 99) rfl ?_); refine goesL_ (some 11) rfl rfl Tryd.func99 (by kernel_rfl) rfl #[.string a0] rfl am ?_; (with_reducible refine (glyph_Fold.calls a0 t136 _ A4.out).mono ?_); rintro e w6 ⟨rfl, hb⟩; refine ⟨_, rfl, ?_⟩; have n0_ := Aside0.mk (below_step bw hb); clear HB; have HB := n0_; clear n0_; (try clear hb); (try clear hb2); (try clear hk); (try clear hi)))
  go_ret2
  exact ⟨by first | rfl | (simp [errW_none, errW_some] <;> rfl) | (simp [*, errW_none, errW_some] <;> rfl), by repeat (first | (with_reducible first | exact HB.out | apply below_alloc | apply pw_below_drewN | apply below_drew1) | exact HB.out)⟩
 ·rw [if_neg c3] at H
  have c3b0 : (t135 == 0) = false := beq_eq_false_iff_ne.mpr c3
  have c3b1 : (t135 != 0) = true := bne_iff_ne.mpr c3
  simp only [Option.some.injEq, Prod.mk.injEq] at H
  obtain ⟨rfl, rfl⟩ := H
  go_enter Tryd.func51, Tryd.ntmps51
  go_wp2_with (first | ((with_reducible refine gate_callee (f := 103) rfl ?_); refine goesL_ (some 6) rfl rfl Tryd.func103 (by kernel_rfl) rfl #[.string a0] rfl am ?_; (with_reducible refine (addr_domain.calls a0 t135 _ A2.out).mono ?_); rintro e w7 ⟨rfl, hb⟩; refine ⟨_, rfl, ?_⟩; have n0_ := Aside0.mk (below_step bw hb); clear HB; have HB := n0_; clear n0_; (try clear hb); (try clear hb2); (try clear hk); (try clear hi)))
  go_ret2
  exact ⟨by first | rfl | (simp [errW_none, errW_some] <;> rfl) | (simp [*, errW_none, errW_some] <;> rfl), by repeat (first | (with_reducible first | exact HB.out | apply below_alloc | apply pw_below_drewN | apply below_drew1) | exact HB.out)⟩

end Go.Proofs.YtgaaogijfikfeaaDoor.Fn
-- written by xprint.py of this session over the kit's printer; not trusted: Lean checks it
namespace Go.Proofs.YtgaaogijfikfeaaDoor.Fn
open Go.RowKit Go.Proofs.YtgaaogijfikfeaaDoorW.PrintWords Go.Proofs.YtgaaogijfikfeaaDoorW.PrintLast Go.Proofs.YtgaaogijfikfeaaDoorW.PrintMore
attribute [local go_sem] max2_int min2_int max_two min_two max_three min_three max_four min_four   -- for this text's walks alone
set_option linter.unusedVariables false
set_option linter.unusedSimpArgs false

/-! ### stringslite_HasPrefix: function 181 -/
def stringslite_HasPrefix.f (a0 : ByteArray) (a1 : ByteArray) : Option (Bool) := if (a0.size : Int) ≥ (a1.size : Int) then (if 0 ≤ (a1.size : Int) then (if (a1.size : Int) ≤ (a0.size : Int) then (some ((a0.extract 0 ((a1.size : Int) : Int).toNat).toList == a1.toList)) else (none)) else (none)) else (some false)
set_option maxHeartbeats 8000000 in
set_option maxRecDepth 100000 in
theorem stringslite_HasPrefix.calls (a0 : ByteArray) (a1 : ByteArray) (r : Bool) (w : World) (h : stringslite_HasPrefix.f a0 a1 = some r) :
  Calls Tryd.prog 181 #[.string a0, .string a1] w fun e w' => e = .returned (.bool r) ∧ Drawn0 w w' := by
 have H : (if (a0.size : Int) ≥ (a1.size : Int) then (if 0 ≤ (a1.size : Int) then (if (a1.size : Int) ≤ (a0.size : Int) then (some ((a0.extract 0 ((a1.size : Int) : Int).toNat).toList == a1.toList)) else (none)) else (none)) else (some false)) = some r := h
 clear h
 by_cases c3 : (a0.size : Int) ≥ (a1.size : Int)
 ·rw [if_pos c3] at H
  have c3b0 : decide ((a1.size : Int) ≤ (a0.size : Int)) = true := decide_eq_true c3
  have c3b1 : decide (a1.size ≤ a0.size) = true := decide_eq_true (Int.ofNat_le.mp c3)
  clear c3
  by_cases c4 : 0 ≤ (a1.size : Int)
  ·rw [if_pos c4] at H
   have c4b0 := eq_true c4
   have c4b1 : decide (0 ≤ (a1.size : Int)) = true := decide_eq_true c4
   clear c4
   by_cases c5 : (a1.size : Int) ≤ (a0.size : Int)
   ·rw [if_pos c5] at H
    have c5b0 := eq_true c5
    have c5b1 : decide ((a1.size : Int) ≤ (a0.size : Int)) = true := decide_eq_true c5
    clear c5
    obtain rfl := Option.some.inj H
    go_enter Tryd.func181, Tryd.ntmps181
    go_wp2
    go_ret
    exact ⟨by first | rfl | (simp; done) | (simp [*]; done) | (simp [nil_ne]; done), by repeat (first | exact Drawn0.refl _ | apply Drawn0.step)⟩
   ·rw [if_neg c5] at H
    exact absurd H (by simp)
  ·rw [if_neg c4] at H
   exact absurd H (by simp)
 ·rw [if_neg c3] at H
  have c3b0 : decide ((a1.size : Int) ≤ (a0.size : Int)) = false := decide_eq_false c3
  have c3b1 : decide (a1.size ≤ a0.size) = false := decide_eq_false (fun h => c3 (Int.ofNat_le.mpr h))
  clear c3
  obtain rfl := Option.some.inj H
  go_enter Tryd.func181, Tryd.ntmps181
  go_wp2
  go_ret
  exact ⟨by first | rfl | (simp; done) | (simp [*]; done) | (simp [nil_ne]; done), by repeat (first | exact Drawn0.refl _ | apply Drawn0.step)⟩

end Go.Proofs.YtgaaogijfikfeaaDoor.Fn
-- written by xprint.py of this session over the kit's printer; not trusted: Lean checks it
namespace Go.Proofs.YtgaaogijfikfeaaDoor.Fn
open Go.RowKit Go.Proofs.YtgaaogijfikfeaaDoorW.PrintWords Go.Proofs.YtgaaogijfikfeaaDoorW.PrintLast Go.Proofs.YtgaaogijfikfeaaDoorW.PrintMore
attribute [local go_sem] max2_int min2_int max_two min_two max_three min_three max_four min_four   -- for this text's walks alone
set_option linter.unusedVariables false
set_option linter.unusedSimpArgs false

/-! ### stringslite_CutPrefix: function 205 -/
def stringslite_CutPrefix.f (a0 : ByteArray) (a1 : ByteArray) : Option (ByteArray × Bool) := (stringslite_HasPrefix.f a0 a1).bind fun t140 => (if t140 = true then (if 0 ≤ (a1.size : Int) then (if (a1.size : Int) ≤ (a0.size : Int) then (some (a0.extract ((a1.size : Int) : Int).toNat a0.size, true)) else (none)) else (none)) else (some (a0, false)))
set_option maxHeartbeats 8000000 in
set_option maxRecDepth 100000 in
theorem stringslite_CutPrefix.calls (a0 : ByteArray) (a1 : ByteArray) (r1 : ByteArray) (r2 : Bool) (w : World) (h : stringslite_CutPrefix.f a0 a1 = some (r1, r2)) :
  Calls Tryd.prog 205 #[.string a0, .string a1] w fun e w' => e = .returned (.tuple #[.string r1, .bool r2]) ∧ Drawn0 w w' := by
 have H : ((stringslite_HasPrefix.f a0 a1).bind fun t140 => (if t140 = true then (if 0 ≤ (a1.size : Int) then (if (a1.size : Int) ≤ (a0.size : Int) then (some (a0.extract ((a1.size : Int) : Int).toNat a0.size, true)) else (none)) else (none)) else (some (a0, false)))) = some (r1, r2) := h
 clear h
 replace H := Option.bind_eq_some_iff.mp H
 obtain ⟨t140, A30, H⟩ := H
 replace H : (if t140 = true then (if 0 ≤ (a1.size : Int) then (if (a1.size : Int) ≤ (a0.size : Int) then (some (a0.extract ((a1.size : Int) : Int).toNat a0.size, true)) else (none)) else (none)) else (some (a0, false))) = some (r1, r2) := H
 have A3 := Aside0.mk A30
 clear A30
 by_cases c4 : t140 = true
 ·subst c4
  have H1 : (if 0 ≤ (a1.size : Int) then (if (a1.size : Int) ≤ (a0.size : Int) then (some (a0.extract ((a1.size : Int) : Int).toNat a0.size, true)) else (none)) else (none)) = some (r1, r2) := by rw [if_pos rfl] at H; exact H
  clear H
  have H := H1
  clear H1
  by_cases c5 : 0 ≤ (a1.size : Int)
  ·rw [if_pos c5] at H
   have c5b0 := eq_true c5
   have c5b1 : decide (0 ≤ (a1.size : Int)) = true := decide_eq_true c5
   clear c5
   by_cases c6 : (a1.size : Int) ≤ (a0.size : Int)
   ·rw [if_pos c6] at H
    have c6b0 := eq_true c6
    have c6b1 : decide ((a1.size : Int) ≤ (a0.size : Int)) = true := decide_eq_true c6
    clear c6
    simp only [Option.some.injEq, Prod.mk.injEq] at H
    obtain ⟨rfl, rfl⟩ := H
    go_enter Tryd.func205, Tryd.ntmps205
    go_wp2_with (first | ((with_reducible refine gate_callee (f := 181) rfl ?_); refine goesL_ (some 8) rfl rfl Tryd.func181 (by kernel_rfl) rfl #[.string a0, .string a1] rfl am ?_; (with_reducible refine (stringslite_HasPrefix.calls a0 a1 true _ A3.out).mono ?_); rintro e w' ⟨rfl, ⟨nd, rfl⟩⟩; refine ⟨_, rfl, ?_⟩))
    go_ret2
    exact ⟨by first | rfl | (simp; done) | (simp [*]; done) | (simp [nil_ne]; done), by repeat (first | exact Drawn0.refl _ | apply Drawn0.step)⟩
   ·rw [if_neg c6] at H
    exact absurd H (by simp)
  ·rw [if_neg c5] at H
   exact absurd H (by simp)
 ·replace c4 := Bool.eq_false_iff.mpr c4
  subst c4
  have H1 : (some (a0, false)) = some (r1, r2) := by rw [if_neg (show ¬ (false = true) by decide)] at H; exact H
  clear H
  have H := H1
  clear H1
  simp only [Option.some.injEq, Prod.mk.injEq] at H
  obtain ⟨rfl, rfl⟩ := H
  go_enter Tryd.func205, Tryd.ntmps205
  go_wp2_with (first | ((with_reducible refine gate_callee (f := 181) rfl ?_); refine goesL_ (some 8) rfl rfl Tryd.func181 (by kernel_rfl) rfl #[.string a0, .string a1] rfl am ?_; (with_reducible refine (stringslite_HasPrefix.calls a0 a1 false _ A3.out).mono ?_); rintro e w' ⟨rfl, ⟨nd, rfl⟩⟩; refine ⟨_, rfl, ?_⟩))
  go_ret2
  exact ⟨by first | rfl | (simp; done) | (simp [*]; done) | (simp [nil_ne]; done), by repeat (first | exact Drawn0.refl _ | apply Drawn0.step)⟩

end Go.Proofs.YtgaaogijfikfeaaDoor.Fn
-- written by xprint.py of this session over the kit's printer; not trusted: Lean checks it
namespace Go.Proofs.YtgaaogijfikfeaaDoor.Fn
open Go.RowKit Go.Proofs.YtgaaogijfikfeaaDoorW.PrintWords Go.Proofs.YtgaaogijfikfeaaDoorW.PrintLast Go.Proofs.YtgaaogijfikfeaaDoorW.PrintMore
attribute [local go_sem] max2_int min2_int max_two min_two max_three min_three max_four min_four   -- for this text's walks alone
set_option linter.unusedVariables false
set_option linter.unusedSimpArgs false

/-! ### strings_CutPrefix: function 180 -/
def strings_CutPrefix.f (a0 : ByteArray) (a1 : ByteArray) : Option (ByteArray × Bool) := (stringslite_CutPrefix.f a0 a1).bind fun bt141 => (some (bt141.1, bt141.2))
set_option maxHeartbeats 8000000 in
set_option maxRecDepth 100000 in
theorem strings_CutPrefix.calls (a0 : ByteArray) (a1 : ByteArray) (r1 : ByteArray) (r2 : Bool) (w : World) (h : strings_CutPrefix.f a0 a1 = some (r1, r2)) :
  Calls Tryd.prog 180 #[.string a0, .string a1] w fun e w' => e = .returned (.tuple #[.string r1, .bool r2]) ∧ Drawn0 w w' := by
 have H : ((stringslite_CutPrefix.f a0 a1).bind fun bt141 => (some (bt141.1, bt141.2))) = some (r1, r2) := h
 clear h
 replace H := Option.bind_eq_some_iff.mp H
 obtain ⟨⟨t141, t142⟩, A30, H⟩ := H
 replace H : (some (t141, t142)) = some (r1, r2) := H
 have A3 := Aside0.mk A30
 clear A30
 simp only [Option.some.injEq, Prod.mk.injEq] at H
 obtain ⟨rfl, rfl⟩ := H
 go_enter Tryd.func180, Tryd.ntmps180
 go_wp2_with (first | ((with_reducible refine gate_callee (f := 205) rfl ?_); refine goesL_ (some 8) rfl rfl Tryd.func205 (by kernel_rfl) rfl #[.string a0, .string a1] rfl am ?_; (with_reducible refine (stringslite_CutPrefix.calls a0 a1 t141 t142 _ A3.out).mono ?_); rintro e w' ⟨rfl, ⟨nd, rfl⟩⟩; refine ⟨_, rfl, ?_⟩))
 go_ret2
 exact ⟨by first | rfl | (simp; done) | (simp [*]; done) | (simp [nil_ne]; done), by repeat (first | exact Drawn0.refl _ | apply Drawn0.step)⟩

end Go.Proofs.YtgaaogijfikfeaaDoor.Fn
-- written by xprint.py of this session over the kit's printer; not trusted: Lean checks it
namespace Go.Proofs.YtgaaogijfikfeaaDoor.Fn
open Go.RowKit Go.Proofs.YtgaaogijfikfeaaDoorW.PrintWords Go.Proofs.YtgaaogijfikfeaaDoorW.PrintLast Go.Proofs.YtgaaogijfikfeaaDoorW.PrintMore
attribute [local go_sem] max2_int min2_int max_two min_two max_three min_three max_four min_four   -- for this text's walks alone
set_option linter.unusedVariables false
set_option linter.unusedSimpArgs false

/-! ### strings_HasPrefix: function 145 -/
def strings_HasPrefix.f (a0 : ByteArray) (a1 : ByteArray) : Option (Bool) := (stringslite_HasPrefix.f a0 a1).bind fun t139 => (some t139)
set_option maxHeartbeats 8000000 in
set_option maxRecDepth 100000 in
theorem strings_HasPrefix.calls (a0 : ByteArray) (a1 : ByteArray) (r : Bool) (w : World) (h : strings_HasPrefix.f a0 a1 = some r) :
  Calls Tryd.prog 145 #[.string a0, .string a1] w fun e w' => e = .returned (.bool r) ∧ Drawn0 w w' := by
 have H : ((stringslite_HasPrefix.f a0 a1).bind fun t139 => (some t139)) = some r := h
 clear h
 replace H := Option.bind_eq_some_iff.mp H
 obtain ⟨t139, A30, H⟩ := H
 replace H : (some t139) = some r := H
 have A3 := Aside0.mk A30
 clear A30
 obtain rfl := Option.some.inj H
 go_enter Tryd.func145, Tryd.ntmps145
 go_wp2_with (first | ((with_reducible refine gate_callee (f := 181) rfl ?_); refine goesL_ (some 7) rfl rfl Tryd.func181 (by kernel_rfl) rfl #[.string a0, .string a1] rfl am ?_; (with_reducible refine (stringslite_HasPrefix.calls a0 a1 t139 _ A3.out).mono ?_); rintro e w' ⟨rfl, ⟨nd, rfl⟩⟩; refine ⟨_, rfl, ?_⟩))
 go_ret
 exact ⟨by first | rfl | (simp; done) | (simp [*]; done) | (simp [nil_ne]; done), by repeat (first | exact Drawn0.refl _ | apply Drawn0.step)⟩

end Go.Proofs.YtgaaogijfikfeaaDoor.Fn
set_option linter.unusedVariables false
set_option linter.unusedSimpArgs false
namespace Go.Proofs.YtgaaogijfikfeaaDoor.Pl
open Go.RowKit Go.Proofs.YtgaaogijfikfeaaDoorW.PrintWords Go.Proofs.YtgaaogijfikfeaaDoor.Fn

/-! Layer 28: an inside without its route. -/
def begins (c : UInt8) (s : ByteArray) : Bool := (bs s).head? == some c
def tail1 (c : UInt8) (s : ByteArray) : ByteArray := if begins c s = true then s.extract 1 s.size else s
theorem lit_size (c : UInt8) : ((⟨#[c]⟩ : ByteArray).size : Int) = 1 := rfl
theorem hasprefix0 (c : UInt8) (s : ByteArray) : stringslite_HasPrefix.f s ⟨#[c]⟩ = some (begins c s) := by
  unfold stringslite_HasPrefix.f begins
  rw [lit_size]
  have hb : bs s = s.data.toList := rfl
  cases h : bs s with
  | nil =>
    have hz : s.size = 0 := by rw [← bs_length, h]; rfl
    rw [if_neg (by omega)]
    rfl
  | cons d r =>
    have hz : s.size = r.length + 1 := by rw [← bs_length, h]; rfl
    rw [if_pos (by omega), if_pos (by decide), if_pos (by omega)]
    congr 1
    rw [toList_bs, toList_bs, show ((1 : Int).toNat) = 1 from rfl, bs_extract, h]
    have : bs (⟨#[c]⟩ : ByteArray) = [c] := rfl
    rw [this]
    simp only [List.take_succ_cons, List.take_zero, List.drop_zero, List.head?_cons]
    rw [Bool.eq_iff_iff]
    simp
theorem hasprefix_is (c : UInt8) (s : ByteArray) : strings_HasPrefix.f s ⟨#[c]⟩ = some (begins c s) := by
  unfold strings_HasPrefix.f
  rw [hasprefix0, Option.bind_some]
theorem cutprefix_is (c : UInt8) (s : ByteArray) : strings_CutPrefix.f s ⟨#[c]⟩ = some (tail1 c s, begins c s) := by
  unfold strings_CutPrefix.f stringslite_CutPrefix.f tail1
  rw [hasprefix0, Option.bind_some, lit_size]
  cases h : begins c s with
  | false => rfl
  | true =>
    have hz : 1 ≤ s.size := by
      rw [← bs_length]
      unfold begins at h
      cases hb : bs s with
      | nil => rw [hb] at h; cases h
      | cons d r => simp
    rw [if_pos rfl, if_pos (by decide), if_pos (by omega)]
    rfl
theorem domainF_is (s : ByteArray) (hs : s.size ≤ 1000000000) : addr_Domain.f s = some (if domain s = 0 then str (fold (bs s)) else ⟨#[]⟩, domain s) := by
  unfold addr_Domain.f addr_domain.f
  rw [if_pos (by omega), Option.bind_some]
  by_cases h : domain s = 0
  · rw [if_pos h, if_pos h, h]
    unfold glyph_Fold.f
    first
      | (rw [if_pos (by omega), Option.bind_some]; rfl)
      | rfl
  · rw [if_neg h, if_neg h]
theorem tail1_size (c : UInt8) (s : ByteArray) : (tail1 c s).size ≤ s.size := by
  unfold tail1
  split
  · simp only [ByteArray.size_extract]; omega
  · exact Nat.le_refl _
def hop (x : ByteArray) : Bool := begins 64 x && decide (domain (tail1 64 x) = 0)
def hops (r : ByteArray) : List ByteArray := cuts (findOne 44) 1 r
def cutAt (c : UInt8) (s : ByteArray) : ByteArray × ByteArray × Bool := (str (Lib.cut (bs s) [c]).1, str (Lib.cut (bs s) [c]).2.1, (Lib.cut (bs s) [c]).2.2)
theorem cutAt_is (c : UInt8) (s : ByteArray) (hs : s.size ≤ 1000000000) : strings_Cut.f s ⟨#[c]⟩ = some (cutAt c s) := by
  unfold strings_Cut.f
  rw [if_pos (by omega)]
  rfl
def ne0 (s : ByteArray) : Bool := !s.toList.isEmpty
def routed (s : ByteArray) : ByteArray × Bool :=
  if begins 64 s = true then (if (cutAt 58 s).2.2 = true then (if (hops (cutAt 58 s).1).all hop = true then ((cutAt 58 s).2.1, ne0 (cutAt 58 s).2.1) else (⟨#[]⟩, false)) else (⟨#[]⟩, false)) else (s, true)
theorem cut_size (c : UInt8) (s : ByteArray) : (cutAt c s).1.size ≤ s.size ∧ (cutAt c s).2.1.size ≤ s.size := by
  unfold cutAt Lib.cut
  have h : (bs s).length = s.size := bs_length s
  simp only []
  split
  · simp only [str_size, List.length_take, List.length_drop]; omega
  · simp only [str_size, List.length_nil]; omega
end Go.Proofs.YtgaaogijfikfeaaDoor.Pl
namespace Go.Proofs.YtgaaogijfikfeaaDoor.Fn
open Go.RowKit Go.Shelf Go.Proofs.YtgaaogijfikfeaaDoorW.PrintWords

def path_routed.f (a0 : ByteArray) : Option (ByteArray × Bool) := if a0.size ≤ 1000000000 then some (Pl.routed a0) else none

attribute [local go_sem] Oper.semAt_some
set_option maxHeartbeats 4000000 in
set_option maxRecDepth 100000 in
theorem path_routed.calls (a0 r1 : ByteArray) (r2 : Bool) (w : World) (hG : Glob w) (h : path_routed.f a0 = some (r1, r2)) :
    Calls Tryd.prog 144 #[.string a0] w fun e w' => e = .returned (.tuple #[.string r1, .bool r2]) ∧ Below w.heap.size w w' := by
  unfold path_routed.f at h
  by_cases hs : a0.size ≤ 1000000000
  · rw [if_pos hs] at h
    have HR := Aside0.mk (Option.some.inj h)
    have HG := Aside0.mk hG
    clear h hG
    have h1 : 1 ≤ 3 := by decide
    have b0 := box_cell w (.string ⟨#[]⟩) 9
    have b1 := box_cell (w.alloc (.cells #[.string ⟨#[]⟩] 9)) (.bool false) 4
    rw [World.size_alloc] at b1
    obtain ⟨w0, hw0⟩ : ∃ w0, (w.alloc (.cells #[.string ⟨#[]⟩] 9)).alloc (.cells #[.bool false] 4) = w0 := ⟨_, rfl⟩
    have B0 : Below w.heap.size w w0 := by rw [← hw0]; exact ((Below.refl _ w).alloc (Nat.le_refl _) _).alloc (by simp) _
    have z0 : w0.heap.size = w.heap.size + 2 := by rw [← hw0]; simp
    have c0 : w0.cell? ⟨w.heap.size, 0, none⟩ = some (.string ⟨#[]⟩) := by rw [← hw0]; exact cell_on _ b0.1
    have f0 : w0.frozen? ⟨w.heap.size, 0, none⟩ = false := by rw [← hw0]; exact frozen_on _ b0.1 b0.2
    have c1 : w0.cell? ⟨w.heap.size + 1, 0, none⟩ = some (.bool false) := by rw [← hw0]; exact b1.1
    have f1 : w0.frozen? ⟨w.heap.size + 1, 0, none⟩ = false := by rw [← hw0]; exact b1.2
    clear b0 b1
    have HX : Hid (∀ (nd : Nat) (W : World), Below (w0.drewN nd).heap.size (w0.drewN nd) W → Aside0 (W.cell? ⟨w.heap.size, 0, none⟩ = some (.string ⟨#[]⟩) ∧ W.frozen? ⟨w.heap.size, 0, none⟩ = false ∧ W.cell? ⟨w.heap.size + 1, 0, none⟩ = some (.bool false) ∧ W.frozen? ⟨w.heap.size + 1, 0, none⟩ = false ∧ w.heap.size + 2 ≤ W.heap.size ∧ Below w.heap.size w W)) := fun nd W hW => by
      have hz : (w0.drewN nd).heap.size = w.heap.size + 2 := z0
      rw [hz] at hW
      exact ⟨(hW.cell (p := ⟨w.heap.size, 0, none⟩) (by simp)).trans c0, (hW.frozen (p := ⟨w.heap.size, 0, none⟩) (by simp)).trans f0, (hW.cell (p := ⟨w.heap.size + 1, 0, none⟩) (by simp)).trans c1, (hW.frozen (p := ⟨w.heap.size + 1, 0, none⟩) (by simp)).trans f1, by have := hW.size; omega, (pw_below_drewN B0 nd).trans (hW.mono (by omega))⟩
    have hp := Pl.hasprefix_is 64 a0
    refine (callsIn_wide (n := 3)).1 ?_
    refine callsIn_of_wp_marks Tryd.func144 rfl trivial ?_ rfl
    simp only [Tryd.ntmps144, List.size_toArray, List.length_cons, List.length_nil, Nat.reduceAdd, Nat.reduceSub, Array.replicate_succ, Array.replicate_zero, List.push_toArray, List.append_toArray, List.nil_append, List.cons_append]
    cases hb : Pl.begins 64 a0 with
    | false =>
      rw [hb] at hp
      have hr : Pl.routed a0 = (a0, true) := by unfold Pl.routed; rw [hb]; rfl
      gi_wp2_with (refine ⟨trivial, ?_⟩; gi_at_call 145; refine (callsIn_wide.2 (strings_HasPrefix.calls _ _ false _ hp)).mono ?_; rintro e w' ⟨rfl, ⟨⟨nd, rfl⟩⟩⟩)
      obtain ⟨d0, d1⟩ := two_set (W := w0.drewN nd) (x := .string a0) (y := .bool true) c0 c1
      refine ⟨.tuple #[.string a0, .bool true], ?_, ?_, below_two (pw_below_drewN B0 nd) (Nat.le_refl _)⟩
      · simp [results, Tryd.f144, go_sem, d0, d1]
      · have := HR.out
        rw [hr] at this
        injection this with e1 e2
        rw [← e1, ← e2]
    | true =>
      rw [hb] at hp
      have hc := Pl.cutAt_is 58 a0 hs
      have hsz := Pl.cut_size 58 a0
      obtain ⟨⟨ro, re, ok⟩, hq⟩ : ∃ q, Pl.cutAt 58 a0 = q := ⟨_, rfl⟩
      rw [hq] at hc hsz
      simp only at hsz
      cases ok with
      | false =>
        have hr : Pl.routed a0 = (⟨#[]⟩, false) := by unfold Pl.routed; rw [hb, hq]; rfl
        gi_wp2_with (first
          | (refine ⟨trivial, ?_⟩; gi_at_call 145; refine (callsIn_wide.2 (strings_HasPrefix.calls _ _ true _ hp)).mono ?_; rintro e w' ⟨rfl, ⟨⟨nd, rfl⟩⟩⟩)
          | (refine ⟨trivial, ?_⟩; gi_at_call 106; refine (callsIn_wide.2 (strings_Cut.calls _ _ ro re false _ (HG.out.below (pw_below_drewN B0 nd)) hc)).mono ?_; rintro e w' ⟨rfl, hB⟩; obtain ⟨d0, g0, d1, g1, z1, B1⟩ := (HX.out nd w' hB).out))
        obtain ⟨q0, q1⟩ := two_set (W := w') (x := .string ⟨#[]⟩) (y := .bool false) d0 d1
        refine ⟨.tuple #[.string ⟨#[]⟩, .bool false], ?_, ?_, below_two B1 (Nat.le_refl _)⟩
        · simp [results, Tryd.f144, go_sem, q0, q1]
        · have := HR.out
          rw [hr] at this
          injection this with e1 e2
          rw [← e1, ← e2]
      | true =>
        have hr : Pl.routed a0 = if (Pl.hops ro).all Pl.hop = true then (re, Pl.ne0 re) else (⟨#[]⟩, false) := by unfold Pl.routed; rw [hb, hq]; rfl
        gi_wp2_with (first
          | (refine ⟨trivial, ?_⟩; gi_at_call 145; refine (callsIn_wide.2 (strings_HasPrefix.calls _ _ true _ hp)).mono ?_; rintro e w' ⟨rfl, ⟨⟨nd, rfl⟩⟩⟩)
          | (refine ⟨trivial, ?_⟩; gi_at_call 106; refine (callsIn_wide.2 (strings_Cut.calls _ _ ro re true _ (HG.out.below (pw_below_drewN B0 nd)) hc)).mono ?_; rintro e w' ⟨rfl, hB⟩; obtain ⟨d0, g0, d1, g1, z1, B1⟩ := (HX.out nd w' hB).out)
          | (refine ⟨trivial, ?_⟩; gi_at_call 84; refine (callsIn_wide.2 (SplitSeq_calls _ _ _)).mono ?_; rintro e W2 ⟨rfl, hbx, hz, hB2⟩))
        have e0 := (hB2.cell (p := ⟨w.heap.size, 0, none⟩) (by show w.heap.size < w'.heap.size; omega)).trans d0
        have k0 := (hB2.frozen (p := ⟨w.heap.size, 0, none⟩) (by show w.heap.size < w'.heap.size; omega)).trans g0
        have e1 := (hB2.cell (p := ⟨w.heap.size + 1, 0, none⟩) (by show w.heap.size + 1 < w'.heap.size; omega)).trans d1
        have k1 := (hB2.frozen (p := ⟨w.heap.size + 1, 0, none⟩) (by show w.heap.size + 1 < w'.heap.size; omega)).trans g1
        have B2 : Below w.heap.size w W2 := B1.trans (hB2.mono (by omega))
        clear hB
        obtain ⟨BS, hBS⟩ : ∃ BS, w'.heap.size = BS := ⟨_, rfl⟩
        rw [hBS] at hbx hz hB2 z1
        refine split_range (bs := BS) (D := fun b => BS ≤ b ∧ b ≤ BS + 2) (xs := Pl.hops ro) h1 (by simp [Act.eval, hBS])
          (split_gives_one 2 (by decide) BS ro 44 (by omega) W2 (by omega) hbx) (fun b hb => by omega)
          (fun pre W => (pre.all Pl.hop = true ∧ W.cell? ⟨w.heap.size, 0, none⟩ = some (.string ⟨#[]⟩) ∧ W.frozen? ⟨w.heap.size, 0, none⟩ = false ∧ W.cell? ⟨w.heap.size + 1, 0, none⟩ = some (.bool false) ∧ W.frozen? ⟨w.heap.size + 1, 0, none⟩ = false) ∧ Below w.heap.size W2 W)
          (fun c pre W => (c = .ret ∧ pre.all Pl.hop = false ∧ W.cell? ⟨w.heap.size, 0, none⟩ = some (.string ⟨#[]⟩) ∧ W.cell? ⟨w.heap.size + 1, 0, none⟩ = some (.bool false)) ∧ Below w.heap.size W2 W)
          (OwnFrom.and (Own.from (fun s A B row hs hg hr => ⟨hs.1, cell_kept hs.2.1 hg hr, (frozen_kept hs.2.1 hg hr).trans hs.2.2.1, cell_kept hs.2.2.2.1 hg hr, (frozen_kept hs.2.2.2.1 hg hr).trans hs.2.2.2.2⟩) _) (ownFrom_below B2.size (by omega)))
          (fun c => OwnFrom.and (Own.from (fun s A B row hs hg hr => ⟨hs.1, hs.2.1, cell_kept hs.2.2.1 hg hr, cell_kept hs.2.2.2 hg hr⟩) _) (ownFrom_below B2.size (by omega)))
          (fun s A v hs => ⟨⟨hs.1.1, (World.cell?_setCell_other _ _ _ _ (by first | (simp; done) | (simp; omega))).trans hs.1.2.1, by rw [World.frozen?_setCell]; exact hs.1.2.2.1, (World.cell?_setCell_other _ _ _ _ (by first | (simp; done) | (simp; omega))).trans hs.1.2.2.2.1, by rw [World.frozen?_setCell]; exact hs.1.2.2.2.2⟩, hs.2.setCell (p := ⟨BS, 0, none⟩) (by show w.heap.size ≤ BS; omega) _⟩)
          ⟨⟨rfl, e0, k0, e1, k1⟩, Below.refl _ W2⟩
          (fun x => { tmps := #[.string a0, undef, .pointer (some ⟨w.heap.size, 0, none⟩), .pointer (some ⟨w.heap.size + 1, 0, none⟩), .string ro, .string re, .bool true, .string x, undef, undef, undef, undef, .string a0, .bool true, .bool false, undef, .tuple #[.string ro, .string re, .bool true], .string a0, .tuple #[.string ro, .string re, .bool true], .string ro, .string re, .bool true, .bool true, .bool false, .string ro, .func (.func 168) #[] #[.pointer (some ⟨BS + 1, 0, none⟩), .pointer (some ⟨BS, 0, none⟩), .pointer (some ⟨BS + 2, 0, none⟩)], .string x, undef, undef, undef, undef, undef, undef, undef, undef, undef, undef, undef, undef, undef, undef, undef, undef, undef, undef, undef], defers := [] }) ?assign ?body ?done ?stop
        case assign =>
          intro l x W K hK
          gi_wp2
          exact hK
        case body =>
          rintro l pre x W ⟨⟨hp, hc0, hf0, hc1, hf1⟩, hBW⟩ hpx
          have hx : x.size ≤ 1000000000 := Nat.le_trans (cuts_size (mem_of_prefix hpx)) (by omega)
          have hwz : BS + 3 ≤ W.heap.size := by have := hBW.size; omega
          have h11 : 1 ≤ 3 - 1 - 1 := by decide
          have hcp := Pl.cutprefix_is 64 x
          have hdm := Pl.domainF_is (Pl.tail1 64 x) (Nat.le_trans (Pl.tail1_size _ _) hx)
          have hh : Pl.hop x = (Pl.begins 64 x && decide (Pl.domain (Pl.tail1 64 x) = 0)) := rfl
          obtain ⟨nm, hnm⟩ : ∃ nm, Pl.tail1 64 x = nm := ⟨_, rfl⟩
          obtain ⟨bg, hbg⟩ : ∃ bg, Pl.begins 64 x = bg := ⟨_, rfl⟩
          obtain ⟨dn, hdn⟩ : ∃ dn, (if Pl.domain (Pl.tail1 64 x) = 0 then Pl.str (Pl.fold (Pl.bs (Pl.tail1 64 x))) else ⟨#[]⟩) = dn := ⟨_, rfl⟩
          rw [hdn] at hdm
          rw [hnm] at hcp hdm hh
          rw [hbg] at hcp hh
          clear hdn
          have h3 : Pl.domain nm = 0 ∨ Pl.domain nm = 2 ∨ Pl.domain nm = 130 := by
            unfold Pl.domain
            repeat' split
            all_goals simp
          have HP := Aside0.mk hp
          clear hp
          rcases h3 with h3 | h3 | h3
          all_goals
            rw [h3] at hdm hh
            cases bg
            all_goals
              gi_wp2_with (first
                | (refine ⟨trivial, ?_⟩; gi_at_call 180; refine (CallsIn.inRound l (callsIn_wide.2 (strings_CutPrefix.calls _ _ nm _ _ hcp))).mono ?_; rintro e w' ⟨rfl, ⟨⟨nd, rfl⟩⟩⟩)
                | (refine ⟨trivial, ?_⟩; gi_at_call 51; refine (CallsIn.inRound l (callsIn_wide.2 (addr_Domain.calls _ dn _ _ hdm))).mono ?_; rintro e W4 ⟨rfl, hB4⟩; have q0 := (hB4.cell (p := ⟨w.heap.size, 0, none⟩) (cell_inside hc0)).trans hc0; have q1 := (hB4.cell (p := ⟨w.heap.size + 1, 0, none⟩) (cell_inside hc1)).trans hc1; have r0 := (hB4.frozen (p := ⟨w.heap.size, 0, none⟩) (cell_inside hc0)).trans hf0; have r1 := (hB4.frozen (p := ⟨w.heap.size + 1, 0, none⟩) (cell_inside hc1)).trans hf1))
              have hB5 : Below W.heap.size W W4 := (pw_below_drewN (Below.refl _ W) nd).trans hB4
              first
                | exact ⟨KeepsOthers.of_below hB5, Kept.of_below hB5 (fun b hb => by omega), ⟨by simp [HP.out, hh], q0, r0, q1, r1⟩, hBW.trans (hB5.mono (by omega))⟩
                | (obtain ⟨s0, s1⟩ := two_set (W := W4) (x := .string ⟨#[]⟩) (y := .bool false) q0 q1
                   exact ⟨(KeepsOthers.of_below hB5).trans keeps_two, ⟨rfl, by simp [hh], s0, s1⟩, below_two (hBW.trans (hB5.mono (by omega))) (Nat.le_refl _)⟩)
        case done =>
          rintro d W hd ⟨⟨hp, hc0, hf0, hc1, hf1⟩, hBW⟩ hK
          have hr2 : Pl.routed a0 = (re, Pl.ne0 re) := by rw [hr, if_pos hp]
          gi_wp2
          obtain ⟨q0, q1⟩ := two_set (W := W) (x := .string re) (y := .bool (!re.toList.isEmpty)) hc0 hc1
          have hK' := (keeps_two (W := W) (b := w.heap.size) (x := .string re) (y := .bool (!re.toList.isEmpty))).same d _ hK rfl
          refine ⟨by simp, .inl ⟨_, _, rfl, run_takeDeferred hK', ?_⟩⟩
          have hc5 := cell_kept q0 (grownBy_putObj' _ d (.deferred none)) (fun r e => by cases e; exact ⟨_, hK', rfl⟩)
          have hc6 := cell_kept q1 (grownBy_putObj' _ d (.deferred none)) (fun r e => by cases e; exact ⟨_, hK', rfl⟩)
          refine ⟨.tuple #[.string re, .bool (!re.toList.isEmpty)], ?_, ?_, (below_two (B2.trans hBW) (Nat.le_refl _)).trans (belowK_b (w := w) (Nat.le_refl _) _ d _ _ (by omega) hK' rfl rfl)⟩
          · simp [results, Tryd.f144, go_sem, hc5, hc6]
          · have := HR.out
            rw [hr2, show Pl.ne0 re = !re.toList.isEmpty from rfl] at this
            injection this with e1 e2
            rw [← e1, ← e2]
        case stop =>
          rintro d c pre W hd hpre ⟨⟨rfl, hp, hc0, hc1⟩, hBW⟩ hK
          have hall : (Pl.hops ro).all Pl.hop = false := by
            rw [List.all_eq_false] at hp ⊢
            obtain ⟨y, hy, hn⟩ := hp
            exact ⟨y, hpre.subset hy, hn⟩
          gi_wp2
          refine ⟨by simp, .inl ⟨_, _, rfl, run_takeDeferred hK, ?_⟩⟩
          have hc5 := cell_kept hc0 (grownBy_putObj' _ d (.deferred none)) (fun r e => by cases e; exact ⟨_, hK, rfl⟩)
          have hc6 := cell_kept hc1 (grownBy_putObj' _ d (.deferred none)) (fun r e => by cases e; exact ⟨_, hK, rfl⟩)
          refine ⟨.tuple #[.string ⟨#[]⟩, .bool false], ?_, ?_, (B2.trans hBW).trans (belowK_b (w := w) (Nat.le_refl _) W d _ _ (by omega) hK rfl rfl)⟩
          · simp [results, Tryd.f144, go_sem, hc5, hc6]
          · have := HR.out
            rw [hr, hall, if_neg (by simp)] at this
            injection this with e1 e2
            rw [← e1, ← e2]
  · rw [if_neg hs] at h
    exact absurd h (by simp)
end Go.Proofs.YtgaaogijfikfeaaDoor.Fn
set_option linter.unusedVariables false
namespace Go.Proofs.YtgaaogijfikfeaaDoor.Pl
open Go.RowKit Go.Proofs.YtgaaogijfikfeaaDoorW.PrintWords Go.Proofs.YtgaaogijfikfeaaDoor.Fn

/-! Layer 13, the program's, over lists of bytes. -/
theorem mono_up {α : Type} {f : Nat → Option α} (h : ∀ k, LeO (f k) (f (k + 1))) {r : α} {k : Nat} (hr : f k = some r) : ∀ (k' : Nat), k ≤ k' → f k' = some r := by
  intro k' hk
  obtain ⟨d, rfl⟩ : ∃ d, k' = k + d := ⟨k' - k, by omega⟩
  clear hk
  induction d with
  | zero => exact hr
  | succ d ih => exact h (k + d) r ih

def splitL (c : UInt8) : Bytes → List Bytes
  | [] => [[]]
  | x :: l => if x = c then [] :: splitL c l else match splitL c l with
    | [] => [[x]]
    | w :: r => (x :: w) :: r
theorem splitL_ne (c : UInt8) (l : Bytes) : splitL c l ≠ [] := by
  cases l with
  | nil => simp [splitL]
  | cons x l =>
    rw [splitL]
    split
    · simp
    · split <;> simp
theorem indexByte_neg (c : UInt8) : ∀ l : Bytes, Lib.indexByte l c < 0 → splitL c l = [l]
  | [], _ => rfl
  | b :: l, h => by
    rw [Lib.indexByte] at h
    have hb : ¬ (b == c) = true := fun q => by rw [if_pos q] at h; omega
    rw [if_neg hb] at h
    by_cases h2 : (Lib.indexByte l c == -1) = true
    · have h3 : Lib.indexByte l c = -1 := by simpa using h2
      rw [splitL, if_neg (by simpa using hb), indexByte_neg c l (by omega)]
    · rw [if_neg h2] at h
      have := Lib.indexByte_ge l c
      have h4 : Lib.indexByte l c ≠ -1 := by simpa using h2
      omega
theorem indexByte_nat (c : UInt8) : ∀ (l : Bytes) (n : Nat), Lib.indexByte l c = n → splitL c l = l.take n :: splitL c (l.drop (n + 1))
  | [], n, h => by simp [Lib.indexByte] at h
  | b :: l, n, h => by
    rw [Lib.indexByte] at h
    by_cases hb : (b == c) = true
    · rw [if_pos hb] at h
      obtain rfl : n = 0 := by omega
      rw [splitL, if_pos (by simpa using hb)]
      simp
    · rw [if_neg hb] at h
      by_cases h2 : (Lib.indexByte l c == -1) = true
      · rw [if_pos h2] at h; omega
      · rw [if_neg h2] at h
        have h3 := Lib.indexByte_ge l c
        have h4 : Lib.indexByte l c ≠ -1 := by simpa using h2
        obtain ⟨m, rfl⟩ : ∃ m, n = m + 1 := ⟨n - 1, by omega⟩
        have ih := indexByte_nat c l m (by omega)
        rw [splitL, if_neg (by simpa using hb), ih]
        simp
theorem cuts_split (c : UInt8) : ∀ (n : Nat) (s : ByteArray), s.size ≤ n → (cuts (findOne c) 1 s).map bs = splitL c (bs s)
  | n, s, hn => by
    by_cases h0 : findOne c s < 0
    · rw [cuts_last (finds_one c) s h0, indexByte_neg c (bs s) h0]
      rfl
    · obtain ⟨N, hN⟩ : ∃ N : Nat, findOne c s = (N : Int) := ⟨(findOne c s).toNat, by omega⟩
      have hfit := (finds_one c).fits s (by omega)
      rw [hN] at hfit
      simp only [Int.toNat_natCast] at hfit
      rw [cuts_more (finds_one c) s h0, hN, indexByte_nat c (bs s) N hN]
      obtain ⟨n, rfl⟩ : ∃ m, n = m + 1 := ⟨n - 1, by omega⟩
      have ih := cuts_split c n (s.extract (N + 1) s.size) (by simp only [ByteArray.size_extract]; omega)
      simp only [Int.toNat_natCast, List.map_cons, ih, bs_extract, List.drop_zero]
      rw [List.take_of_length_le (i := s.size) (by rw [bs_length]; exact Nat.le_refl _)]
theorem dots_split (s : ByteArray) : (dots s).map bs = splitL 46 (bs s) := cuts_split 46 s.size s (Nat.le_refl _)
theorem all_map_bs (p : Bytes → Bool) (l : List ByteArray) : (l.map bs).all p = l.all (fun x => p (bs x)) := by
  rw [List.all_map]; rfl

def atomL (w : Bytes) : Bool := w.all atomic && !w.isEmpty
def dottedL (l : Bytes) : Bool := (splitL 46 l).all atomL
theorem dotted_L (s : ByteArray) : dotted s = dottedL (bs s) := by
  unfold dotted dottedL
  rw [← dots_split, all_map_bs]
  rfl
def domLongL (l : Bytes) : Bool := decide (253 < l.length) || (splitL 46 l).any (fun w => decide (63 < w.length))
def domainL (l : Bytes) : Int := if (splitL 46 l).all labelL = true then (if domLongL l = true then 2 else 0) else 130
theorem domain_L (s : ByteArray) : domain s = domainL (bs s) := by
  unfold domain domainL domLong domLongL
  rw [← dots_split, all_map_bs, List.any_map]
  have e1 : (dots s).all label = (dots s).all (fun x => labelL (bs x)) := rfl
  have e2 : ((fun w : Bytes => decide (63 < w.length)) ∘ bs) = (fun x : ByteArray => decide (63 < (x.size : Int))) := by
    funext x
    simp only [Function.comp, bs_length]
    congr 1
    exact propext ⟨fun h => by omega, fun h => by omega⟩
  have e3 : decide (253 < (bs s).length) = decide (253 < (s.size : Int)) := by
    rw [bs_length]
    congr 1
    exact propext ⟨fun h => by omega, fun h => by omega⟩
  rw [e1, e2, e3]

/-! Quote -/
def text (c : UInt8) : Bool := (lex_text.f (c.toNat : Int)).getD false
theorem text_is (c : UInt8) : lex_text.f (c.toNat : Int) = some (text c) := by
  have : ∀ x : Int, (lex_text.f x).isSome := by
    intro x
    unfold lex_text.f
    repeat' split
    all_goals rfl
  unfold text
  have h := this (c.toNat : Int)
  cases hx : lex_text.f (c.toNat : Int) with
  | none => rw [hx] at h; cases h
  | some b => rfl
def qB (c : UInt8) : Bytes := if c = 34 ∨ c = 92 then [92, c] else if text c = true then [c] else [32]
def quote (l : Bytes) : Bytes := 34 :: (l.flatMap qB ++ [34])
def numsOf (l : Bytes) : List Int := l.map fun c => (c.toNat : Int)
theorem strOfNums_of (l : Bytes) : strOfNums (numsOf l) = str l := by
  unfold strOfNums numsOf str
  congr 2
  rw [List.map_map]
  conv => rhs; rw [← List.map_id l]
  apply List.map_congr_left
  intro c _
  simp
theorem numsOf_app (a b : Bytes) : numsOf (a ++ b) = numsOf a ++ numsOf b := by simp [numsOf]
theorem numsOf_length (a : Bytes) : (numsOf a).length = a.length := by simp [numsOf]
theorem byte_eq (c : UInt8) (n : Nat) (h : n < 256) : ((c.toNat : Int) = (n : Int)) = (c = UInt8.ofNat n) := by
  apply propext
  constructor
  · intro q
    apply UInt8.toNat_inj.1
    simp
    omega
  · intro q
    rw [q]
    simp
    omega
theorem lexQuote_l0 (s : ByteArray) (hs : s.size ≤ 1000000000) : ∀ (rest : Bytes) (i k : Nat) (acc : Bytes), (bs s).drop i = rest → i ≤ (bs s).length → 2 * rest.length + 1 ≤ k → acc.length ≤ 2 * i + 1 →
    lex_Quote.l0 k s (numsOf acc) (s.size : Int) (i : Int) = some (str (acc ++ rest.flatMap qB ++ [34]))
  | [], i, k, acc, hd, hi, hk, ha => by
    obtain ⟨k, rfl⟩ : ∃ j, k = j + 1 := ⟨k - 1, by omega⟩
    have := drop_nil hd
    rw [bs_length] at this hi
    rw [lex_Quote.l0, if_neg (by omega), if_pos (by rw [numsOf_length]; omega)]
    rw [show numsOf acc ++ [34] = numsOf (acc ++ [34]) by rw [numsOf_app]; rfl, strOfNums_of]
    simp
  | c :: rest, i, k, acc, hd, hi, hk, ha => by
    obtain ⟨k, rfl⟩ : ∃ j, k = j + 1 + 1 := ⟨k - 2, by simp at hk; omega⟩
    obtain ⟨h1, h2, h3, h4⟩ := drop_cons hd
    have h5 : i < s.size := by rw [bs_length] at h1; exact h1
    simp only [List.length_cons] at hk
    have e34 : ((c.toNat : Int) = 34) = (c = 34) := byte_eq c 34 (by decide)
    have e92 : ((c.toNat : Int) = 92) = (c = 92) := byte_eq c 92 (by decide)
    have goon : ∀ acc' : Bytes, acc'.length ≤ acc.length + 2 → lex_Quote.l0 k s (numsOf acc') (s.size : Int) (wrap64 ((i : Int) + 1)) = some (str (acc' ++ rest.flatMap qB ++ [34])) := by
      intro acc' hl
      rw [wrap_succ i (by omega)]
      exact lexQuote_l0 s hs rest (i + 1) k acc' h3 (by omega) (by omega) (by omega)
    have hl1 : (numsOf acc).length < 140737488355328 := by rw [numsOf_length]; omega
    have esc : c = 34 ∨ c = 92 → lex_Quote.j1 (k + 1) s (numsOf acc) (c.toNat : Int) (s.size : Int) (i : Int) true = some (str (acc ++ (c :: rest).flatMap qB ++ [34])) := by
      intro hc
      rw [lex_Quote.j1, if_pos rfl, if_pos hl1]
      simp only [Option.bind_some]
      rw [if_pos (by rw [List.length_append, numsOf_length]; simp; omega)]
      rw [show numsOf acc ++ [92] ++ [(c.toNat : Int)] = numsOf (acc ++ [92, c]) by simp [numsOf], goon _ (by simp)]
      simp [qB, hc]
    rw [lex_Quote.l0, if_pos (by omega), if_pos (by omega), if_pos (by omega), bt_drop hd]
    by_cases c34 : c = 34
    · rw [if_pos (by rw [e34]; exact c34), esc (.inl c34)]
    · rw [if_neg (by rw [e34]; exact c34)]
      by_cases c92 : c = 92
      · rw [show ((c.toNat : Int) == 92) = true by rw [beq_iff_eq, e92]; exact c92, esc (.inr c92)]
      · rw [show ((c.toNat : Int) == 92) = false by rw [beq_eq_false_iff_ne, ne_eq, e92]; exact c92, lex_Quote.j1, if_neg (by decide), text_is]
        simp only [Option.bind_some]
        have hn : ¬ (c = 34 ∨ c = 92) := fun h => h.elim c34 c92
        cases ht : text c with
        | true =>
          rw [if_pos rfl, if_pos hl1, show numsOf acc ++ [(c.toNat : Int)] = numsOf (acc ++ [c]) by simp [numsOf], goon _ (by simp)]
          simp [qB, hn, ht]
        | false =>
          rw [if_neg (by decide), if_pos hl1, show numsOf acc ++ [32] = numsOf (acc ++ [32]) by simp [numsOf], goon _ (by simp)]
          simp [qB, hn, ht]
theorem lexQuote_is (s : ByteArray) (hs : s.size ≤ 1000000000) (k : Nat) (hk : 2 * s.size + 1 ≤ k) : lex_Quote.f k s = some (str (quote (bs s))) := by
  have := lexQuote_l0 s hs (bs s) 0 k [34] (by simp) (by omega) (by rw [bs_length]; omega) (by simp)
  unfold lex_Quote.f quote
  exact this
theorem quote_length (l : Bytes) : (quote l).length ≤ 2 * l.length + 2 := by
  have h : (l.flatMap qB).length ≤ 2 * l.length := by
    induction l with
    | nil => simp
    | cons c l ih =>
      have : (qB c).length ≤ 2 := by unfold qB; repeat' split
                                     all_goals simp
      simp only [List.flatMap_cons, List.length_append, List.length_cons]
      omega
  unfold quote
  simp only [List.length_cons, List.length_append, List.length_nil]
  omega

/-! Text, Key, why, Right -/
def localL (a : Bytes) : Bytes := if dottedL a = true then a else quote a
def textL (a b : Bytes) : Bytes := localL a ++ 64 :: b
theorem localL_length (a : Bytes) : (localL a).length ≤ 2 * a.length + 2 := by
  unfold localL
  have := quote_length a
  split <;> omega
theorem addrText_is (a b : ByteArray) (ha : a.size ≤ 1000000) (hb : b.size ≤ 1000000) (k : Nat) (hk : 2 * a.size + 1 ≤ k) : addr_Addr_Text.f k a b = some (str (textL (bs a) (bs b))) := by
  unfold addr_Addr_Text.f addr_Dotted.f textL localL
  rw [if_pos (by omega)]
  simp only [Option.bind_some]
  rw [dotted_L]
  cases hd : dottedL (bs a) with
  | true =>
    rw [if_pos rfl, if_pos (by omega), if_pos (by simp only [ByteArray.size_append]; have : (⟨#[64]⟩ : ByteArray).size = 1 := rfl; omega), if_pos rfl]
    congr 1
    apply bs_inj
    rw [bs_app, bs_app, bs_str]
    simp [bs]
  | false =>
    have hq := quote_length (bs a)
    rw [bs_length] at hq
    rw [if_neg (by decide), lexQuote_is a (by omega) k hk]
    simp only [Option.bind_some]
    rw [if_pos (by rw [str_size]; omega), if_pos (by simp only [ByteArray.size_append, str_size]; have : (⟨#[64]⟩ : ByteArray).size = 1 := rfl; omega), if_neg (by decide)]
    congr 1
    apply bs_inj
    rw [bs_app, bs_app, bs_str, bs_str]
    simp [bs]
theorem textL_length (a b : Bytes) : (textL a b).length ≤ 2 * a.length + 3 + b.length := by
  unfold textL
  have := localL_length a
  simp
  omega
theorem addrKey_is (a b : ByteArray) (ha : a.size ≤ 1000000) (hb : b.size ≤ 1000000) (k : Nat) (hk : 2 * a.size + 1 ≤ k) : addr_Addr_Key.f k a b = some (str (fold (textL (bs a) (bs b)))) := by
  unfold addr_Addr_Key.f
  rw [addrText_is a b ha hb k hk]
  have := textL_length (bs a) (bs b)
  rw [bs_length, bs_length] at this
  simp only [Option.bind_some]
  unfold glyph_Fold.f
  rw [if_pos (by rw [str_size]; omega)]
  simp only [Option.bind_some]
  rw [show (str (textL (bs a) (bs b))).data.toList = textL (bs a) (bs b) from str_data _]
def why (a b : ByteArray) : Int :=
  if domain b = 130 ∨ bs a = [] ∨ plain a = false then 130
  else if domain b ≠ 0 ∨ 64 < a.size ∨ 254 < (textL (bs a) (bs b)).length then 2 else 0
theorem addrWhy_is (a b : ByteArray) (ha : a.size ≤ 1000000) (hb : b.size ≤ 1000000) (k : Nat) (hk : 2 * a.size + 1 + 1 ≤ k) : addr_why.f k a b = some (why a b) := by
  unfold addr_why.f addr_domain.f why
  rw [if_pos (by omega)]
  simp only [Option.bind_some]
  obtain ⟨k, rfl⟩ : ∃ j, k = j + 1 := ⟨k - 1, by omega⟩
  have yes : addr_why.j0 (k + 1) (domain b) true a b = some 130 := by rw [addr_why.j0, if_pos rfl]
  by_cases h1 : domain b = 130
  · rw [if_pos h1, if_pos (.inl h1), yes]
  · rw [if_neg h1]
    by_cases h2 : bs a = []
    · rw [if_pos (by rw [toList_bs]; exact h2), if_pos (.inr (.inl h2)), yes]
    · rw [if_neg (by rw [toList_bs]; exact h2)]
      unfold glyph_Plain.f
      rw [if_pos (by omega)]
      simp only [Option.bind_some]
      cases hp : plain a with
      | false => rw [if_pos (.inr (.inr rfl)), show (!false) = true from rfl, yes]
      | true =>
        rw [if_neg (by simp [h1, h2]), show (!true) = false from rfl, addr_why.j0, if_neg (by decide)]
        by_cases h3 : domain b = 0
        · rw [if_pos h3]
          by_cases h4 : (a.size : Int) > 64
          · rw [if_pos h4, if_pos (.inr (.inl (by omega)))]
          · rw [if_neg h4, addrText_is a b ha hb k (by omega)]
            simp only [Option.bind_some]
            rw [str_size]
            by_cases h5 : ((textL (bs a) (bs b)).length : Int) > 254
            · rw [if_pos h5, if_pos (.inr (.inr (by omega)))]
            · rw [if_neg h5, if_neg (by rintro (h | h | h); exact h h3; omega; omega)]
        · rw [if_neg h3, if_pos (.inl h3)]
def right (a b : ByteArray) : Bool := decide (why a b = 0) && (bs b == fold (bs b))
theorem addrRight_is (a b : ByteArray) (ha : a.size ≤ 1000000) (hb : b.size ≤ 1000000) (k : Nat) (hk : 2 * a.size + 1 + 1 ≤ k) : addr_Addr_Right.f k a b = some (right a b) := by
  unfold addr_Addr_Right.f right
  rw [addrWhy_is a b ha hb k hk]
  simp only [Option.bind_some]
  by_cases h : why a b = 0
  · rw [if_pos h]
    unfold glyph_Fold.f
    rw [if_pos (by omega)]
    simp only [Option.bind_some]
    rw [toList_bs, toList_str]
    simp [h, bs]
  · rw [if_neg h]
    simp [h]
end Go.Proofs.YtgaaogijfikfeaaDoor.Pl
-- written by xprint.py of this session over the kit's printer; not trusted: Lean checks it
namespace Go.Proofs.YtgaaogijfikfeaaDoor.Fn
open Go.RowKit Go.Proofs.YtgaaogijfikfeaaDoorW.PrintWords Go.Proofs.YtgaaogijfikfeaaDoorW.PrintLast Go.Proofs.YtgaaogijfikfeaaDoorW.PrintMore
attribute [local go_sem] max2_int min2_int max_two min_two max_three min_three max_four min_four   -- for this text's walks alone
set_option linter.unusedVariables false
set_option linter.unusedSimpArgs false

/-! ### path_closing: function 143 -/
mutual
def path_closing.j0 : Nat → ByteArray → Bool → Option (Int)
 | 0, _, _ => none
 | k + 1, x0, x12 => if x12 = true then (some (-1)) else (path_closing.l0 k x0 false 1)
def path_closing.l0 : Nat → ByteArray → Bool → Int → Option (Int)
 | 0, _, _, _ => none
 | k + 1, x0, x3, x4 => if x4 < (x0.size : Int) then (if 0 ≤ x4 then (if (bt x0 x4) = 34 then (path_closing.l0 k x0 (!x3) (wrap64 (x4 + 1))) else (if (bt x0 x4) = 92 then (path_closing.j2 k x0 x3 x4 (bt x0 x4) x3) else (path_closing.j2 k x0 x3 x4 (bt x0 x4) false))) else (none)) else (some (-1))
def path_closing.j2 : Nat → ByteArray → Bool → Int → Int → Bool → Option (Int)
 | 0, _, _, _, _, _ => none
 | k + 1, x0, x3, x4, x5, x27 => if x27 = true then (path_closing.l0 k x0 x3 (wrap64 ((wrap64 (x4 + 1)) + 1))) else (if x5 = 62 then (if x3 = true then (path_closing.l0 k x0 x3 (wrap64 (x4 + 1))) else (some x4)) else (path_closing.l0 k x0 x3 (wrap64 (x4 + 1))))
end
def path_closing.f (k : Nat) (a0 : ByteArray) : Option (Int) := if a0.toList = ([] : List UInt8) then (path_closing.j0 k a0 true) else (if 0 < (a0.size : Int) then (path_closing.j0 k a0 ((bt a0 0) != 60)) else (none))
set_option maxHeartbeats 8000000 in
set_option maxRecDepth 100000 in
theorem path_closing.calls (k : Nat) (a0 : ByteArray) (r : Int) (w : World) (h : path_closing.f k a0 = some r) :
  Calls Tryd.prog 143 #[.string a0] w fun e w' => e = .returned (.int .i64 r) ∧ Drawn0 w w' := by
 have H : (if a0.toList = ([] : List UInt8) then (path_closing.j0 k a0 true) else (if 0 < (a0.size : Int) then (path_closing.j0 k a0 ((bt a0 0) != 60)) else (none))) = some r := h
 clear h
 have HC2 := Aside0.mk H
 clear H
 go_enter Tryd.func143, Tryd.ntmps143
 go_upto_region 1 with (fail)
 go_cut [12] (fun v12 wc => ∃ (kq : Nat) (x12_1 : Bool), v12 = .bool x12_1 ∧ Aside0 (path_closing.j0 kq a0 x12_1 = some r) ∧ Aside0 (kq ≤ k) ∧ Drawn0 w wc)
 case first =>
  have H := HC2.out
  clear HC2
  by_cases c3 : a0.toList = ([] : List UInt8)
  ·rw [if_pos c3] at H
   have c3b0 : (a0.toList == ([] : List UInt8)) = true := beq_iff_eq.mpr c3
   have c3b1 : (a0.toList != ([] : List UInt8)) = false := bne_eq_false_iff_eq.mpr c3
   clear c3
   (first | rw [c3b0] | (simp only [i64_w, i32_w]; rw [c3b0]) | skip)
   have H' := Aside0.mk H
   clear H
   go_wp2
   go_meet
   case rel => exact ⟨_, (true), cl, H', ⟨by first | omega | exact Nat.le_refl _⟩, by repeat (first | exact Drawn0.refl _ | apply Drawn0.step)⟩
  ·rw [if_neg c3] at H
   have c3b0 : (a0.toList == ([] : List UInt8)) = false := beq_eq_false_iff_ne.mpr c3
   have c3b1 : (a0.toList != ([] : List UInt8)) = true := bne_iff_ne.mpr c3
   (first | rw [c3b0] | (simp only [i64_w, i32_w]; rw [c3b0]) | skip)
   by_cases c4 : 0 < (a0.size : Int)
   ·rw [if_pos c4] at H
    have c4b0 : decide (0 < (a0.size : Int)) = true := decide_eq_true c4
    have c4b1 : decide (0 < a0.size) = true := decide_eq_true (by omega)
    clear c4
    have H' := Aside0.mk H
    clear H
    have p5 : 0 ≤ (0 : Int) := (by omega)
    have q5 : 0 < a0.size := (by have : (0 : Int) < (a0.size : Int) := od; omega)
    have hx5 : ∀ h : 0 < a0.size, ((a0[0]'h).toNat : Int) = bt a0 0 := bt_at a0 0
    clear p5
    have qi5 : (0 < (a0.size : Int)) = True := eq_true (od)
    replace q5 := eq_true q5
    go_wp2
    go_meet
    case rel => exact ⟨_, (((bt a0 0) != 60)), cl, H', ⟨by first | omega | exact Nat.le_refl _⟩, by repeat (first | exact Drawn0.refl _ | apply Drawn0.step)⟩
   ·rw [if_neg c4] at H
    exact absurd H (by simp)
 case rest =>
  clear HC2
  try clear c1
  try clear p2
  try clear c3
  try clear c3b0
  try clear c3b1
  try clear c4
  try clear c4b0
  try clear c4b1
  try clear p5
  try clear q5
  try clear hx5
  try clear qi5
  try clear p5
  try clear q5
  obtain ⟨kq, x12_1, rfl, HA, HJ1, ⟨mc1, rfl⟩⟩ := hcut
  cases kq with
  | zero => exact absurd HA.out (by simp [path_closing.j0])
  | succ kj1 =>
   have H := HA.out
   clear HA
   simp only [path_closing.j0] at H
   by_cases c6 : x12_1 = true
   ·subst c6
    have H1 : (some (-1)) = some r := by rw [if_pos rfl] at H; exact H
    clear H
    have H := H1
    clear H1
    obtain rfl := Option.some.inj H
    go_wp2
    go_ret
    exact ⟨by first | rfl | (simp; done) | (simp [*]; done) | (simp [nil_ne]; done), by repeat (first | exact Drawn0.refl _ | apply Drawn0.step)⟩
   ·replace c6 := Bool.eq_false_iff.mpr c6
    subst c6
    have H1 : (path_closing.l0 kj1 a0 false 1) = some r := by rw [if_neg (show ¬ (false = true) by decide)] at H; exact H
    clear H
    have H := H1
    clear H1
    have H' := Aside0.mk H
    clear H
    go_wp2
    go_loopg [3, 4] kj1 (fun kq v3 v4 w' => ∃ (x3_2 : Bool) (x4_2 : Int), v3 = .bool x3_2 ∧ v4 = .int .i64 x4_2 ∧ Aside0 (path_closing.l0 kq a0 x3_2 x4_2 = some r) ∧ Aside0 (kq ≤ kj1) ∧ Drawn0 w w')
    case atStart => exact ⟨(false), (1), cl, cl, H', ⟨Nat.le_refl _⟩, by repeat (first | exact Drawn0.refl _ | apply Drawn0.step)⟩
    case round =>
     clear H'
     try clear c1
     try clear p2
     try clear c3
     try clear c3b0
     try clear c3b1
     try clear c4
     try clear c4b0
     try clear c4b1
     try clear p5
     try clear q5
     try clear hx5
     try clear qi5
     try clear c6
     try clear p2
     try clear p5
     try clear q5
     obtain ⟨x3_2, x4_2, rfl, rfl, HA, HK2, ⟨m2, rfl⟩⟩ := hrel
     cases gk with
     | zero => exact absurd HA.out (by simp [path_closing.l0])
     | succ k2 =>
      have H := HA.out
      clear HA
      simp only [path_closing.l0] at H
      by_cases c7 : x4_2 < (a0.size : Int)
      ·rw [if_pos c7] at H
       have c7b0 : decide (x4_2 < (a0.size : Int)) = true := decide_eq_true c7
       clear c7
       by_cases c8 : 0 ≤ x4_2
       ·rw [if_pos c8] at H
        have c8b0 : decide (0 ≤ x4_2) = true := decide_eq_true c8
        clear c8
        by_cases c10 : (bt a0 x4_2) = 34
        ·rw [if_pos c10] at H
         have c10b0 : ((bt a0 x4_2) == 34) = true := beq_iff_eq.mpr c10
         have c10b1 : ((bt a0 x4_2) != 34) = false := bne_eq_false_iff_eq.mpr c10
         clear c10
         have H' := Aside0.mk H
         clear H
         have p9 : 0 ≤ (x4_2 : Int) := od
         have q9 : x4_2 < (a0.size : Int) := od
         have hx9 := bt_at a0 x4_2
         replace p9 := eq_true p9
         replace q9 := eq_true q9
         go_wp2
         go_roundg k2
         case measure => have := HJ1.out; have := HK2.out; omega
         case rel => exact ⟨(!x3_2), (wrap64 (x4_2 + 1)), cl, cl, H', ⟨by have := HJ1.out; have := HK2.out; omega⟩, by repeat (first | exact Drawn0.refl _ | apply Drawn0.step)⟩
        ·rw [if_neg c10] at H
         have c10b0 : ((bt a0 x4_2) == 34) = false := beq_eq_false_iff_ne.mpr c10
         have c10b1 : ((bt a0 x4_2) != 34) = true := bne_iff_ne.mpr c10
         have HC11 := Aside0.mk H
         clear H
         have p9 : 0 ≤ (x4_2 : Int) := od
         have q9 : x4_2 < (a0.size : Int) := od
         have hx9 := bt_at a0 x4_2
         replace p9 := eq_true p9
         replace q9 := eq_true q9
         go_upto_region 10 with (fail)
         go_cut [27] (fun v27 wc => ∃ (kq : Nat) (x27_10 : Bool), v27 = .bool x27_10 ∧ Aside0 (path_closing.j2 kq a0 x3_2 x4_2 (bt a0 x4_2) x27_10 = some r) ∧ Aside0 (kq ≤ k2) ∧ Drawn0 w wc)
         case first =>
          have H := HC11.out
          clear HC11
          by_cases c12 : (bt a0 x4_2) = 92
          ·rw [if_pos c12] at H
           have c12b0 : ((bt a0 x4_2) == 92) = true := beq_iff_eq.mpr c12
           have c12b1 : ((bt a0 x4_2) != 92) = false := bne_eq_false_iff_eq.mpr c12
           clear c12
           (first | rw [c12b0] | (simp only [i64_w, i32_w]; rw [c12b0]) | skip)
           have H' := Aside0.mk H
           clear H
           go_wp2
           go_meet
           case rel => exact ⟨_, (x3_2), cl, H', ⟨by have := HJ1.out; have := HK2.out; first | omega | exact Nat.le_refl _⟩, by repeat (first | exact Drawn0.refl _ | apply Drawn0.step)⟩
          ·rw [if_neg c12] at H
           have c12b0 : ((bt a0 x4_2) == 92) = false := beq_eq_false_iff_ne.mpr c12
           have c12b1 : ((bt a0 x4_2) != 92) = true := bne_iff_ne.mpr c12
           (first | rw [c12b0] | (simp only [i64_w, i32_w]; rw [c12b0]) | skip)
           have H' := Aside0.mk H
           clear H
           go_wp2
           go_meet
           case rel => exact ⟨_, (false), cl, H', ⟨by have := HJ1.out; have := HK2.out; first | omega | exact Nat.le_refl _⟩, by repeat (first | exact Drawn0.refl _ | apply Drawn0.step)⟩
         case rest =>
          clear HC11
          try clear c1
          try clear p2
          try clear c3
          try clear c3b0
          try clear c3b1
          try clear c4
          try clear c4b0
          try clear c4b1
          try clear p5
          try clear q5
          try clear hx5
          try clear qi5
          try clear c6
          try clear p6
          try clear c7
          try clear c7b0
          try clear c8
          try clear c8b0
          try clear p9
          try clear q9
          try clear hx9
          try clear c10
          try clear c10b0
          try clear c10b1
          try clear c12
          try clear c12b0
          try clear c12b1
          try clear p2
          try clear p5
          try clear p9
          try clear q5
          try clear q9
          obtain ⟨kq, x27_10, rfl, HA, HJ10, ⟨mc10, rfl⟩⟩ := hcut
          cases kq with
          | zero => exact absurd HA.out (by simp [path_closing.j2])
          | succ kj10 =>
           have H := HA.out
           clear HA
           simp only [path_closing.j2] at H
           by_cases c13 : x27_10 = true
           ·subst c13
            have H1 : (path_closing.l0 kj10 a0 x3_2 (wrap64 ((wrap64 (x4_2 + 1)) + 1))) = some r := by rw [if_pos rfl] at H; exact H
            clear H
            have H := H1
            clear H1
            have H' := Aside0.mk H
            clear H
            go_wp2
            go_roundg kj10
            case measure => have := HJ1.out; have := HK2.out; have := HJ10.out; omega
            case rel => exact ⟨(x3_2), (wrap64 ((wrap64 (x4_2 + 1)) + 1)), cl, cl, H', ⟨by have := HJ1.out; have := HK2.out; have := HJ10.out; omega⟩, by repeat (first | exact Drawn0.refl _ | apply Drawn0.step)⟩
           ·replace c13 := Bool.eq_false_iff.mpr c13
            subst c13
            have H1 : (if (bt a0 x4_2) = 62 then (if x3_2 = true then (path_closing.l0 kj10 a0 x3_2 (wrap64 (x4_2 + 1))) else (some x4_2)) else (path_closing.l0 kj10 a0 x3_2 (wrap64 (x4_2 + 1)))) = some r := by rw [if_neg (show ¬ (false = true) by decide)] at H; exact H
            clear H
            have H := H1
            clear H1
            by_cases c14 : (bt a0 x4_2) = 62
            ·rw [if_pos c14] at H
             have c14b0 : ((bt a0 x4_2) == 62) = true := beq_iff_eq.mpr c14
             have c14b1 : ((bt a0 x4_2) != 62) = false := bne_eq_false_iff_eq.mpr c14
             clear c14
             by_cases c15 : x3_2 = true
             ·subst c15
              have H1 : (path_closing.l0 kj10 a0 true (wrap64 (x4_2 + 1))) = some r := by rw [if_pos rfl] at H; exact H
              clear H
              have H := H1
              clear H1
              have H' := Aside0.mk H
              clear H
              go_wp2
              go_roundg kj10
              case measure => have := HJ1.out; have := HK2.out; have := HJ10.out; omega
              case rel => exact ⟨(true), (wrap64 (x4_2 + 1)), cl, cl, H', ⟨by have := HJ1.out; have := HK2.out; have := HJ10.out; omega⟩, by repeat (first | exact Drawn0.refl _ | apply Drawn0.step)⟩
             ·replace c15 := Bool.eq_false_iff.mpr c15
              subst c15
              have H1 : (some x4_2) = some r := by rw [if_neg (show ¬ (false = true) by decide)] at H; exact H
              clear H
              have H := H1
              clear H1
              obtain rfl := Option.some.inj H
              go_wp2
              go_ret
              exact ⟨by first | rfl | (simp; done) | (simp [*]; done) | (simp [nil_ne]; done), by repeat (first | exact Drawn0.refl _ | apply Drawn0.step)⟩
            ·rw [if_neg c14] at H
             have c14b0 : ((bt a0 x4_2) == 62) = false := beq_eq_false_iff_ne.mpr c14
             have c14b1 : ((bt a0 x4_2) != 62) = true := bne_iff_ne.mpr c14
             have H' := Aside0.mk H
             clear H
             go_wp2
             go_roundg kj10
             case measure => have := HJ1.out; have := HK2.out; have := HJ10.out; omega
             case rel => exact ⟨(x3_2), (wrap64 (x4_2 + 1)), cl, cl, H', ⟨by have := HJ1.out; have := HK2.out; have := HJ10.out; omega⟩, by repeat (first | exact Drawn0.refl _ | apply Drawn0.step)⟩
       ·rw [if_neg c8] at H
        exact absurd H (by simp)
      ·rw [if_neg c7] at H
       have c7b0 : decide (x4_2 < (a0.size : Int)) = false := decide_eq_false c7
       clear c7
       obtain rfl := Option.some.inj H
       go_wp2
       go_ret
       exact ⟨by first | rfl | (simp; done) | (simp [*]; done) | (simp [nil_ne]; done), by repeat (first | exact Drawn0.refl _ | apply Drawn0.step)⟩

end Go.Proofs.YtgaaogijfikfeaaDoor.Fn
set_option linter.unusedVariables false
set_option linter.unusedSimpArgs false
namespace Go.Proofs.YtgaaogijfikfeaaDoor.Pl
open Go.RowKit Go.Proofs.YtgaaogijfikfeaaDoorW.PrintWords Go.Proofs.YtgaaogijfikfeaaDoor.Fn

/-! Layer 28: where a path ends. st 0: outside of quotes; 1: in them; 2: in them, behind a backslash. -/
def closeL : Nat → Nat → Bytes → Int
  | _, _, [] => -1
  | st, i, c :: l => if st = 2 then closeL 1 (i + 1) l else if c = 34 then closeL (1 - st) (i + 1) l else if c = 92 ∧ st = 1 then closeL 2 (i + 1) l else if c = 62 ∧ st = 0 then (i : Int) else closeL st (i + 1) l
def closing (l : Bytes) : Int := match l with
  | [] => -1
  | c :: r => if c = 60 then closeL 0 1 r else -1
def qn (q : Bool) : Nat := if q = true then 1 else 0
theorem pathclosing_l0 (s : ByteArray) (hs : s.size ≤ 1000000000) : ∀ (n k i : Nat) (q : Bool) (l : Bytes), l.length ≤ n → 2 * n + 2 ≤ k → (bs s).drop i = l → i ≤ (bs s).length →
    path_closing.l0 k s q (i : Int) = some (closeL (qn q) i l)
  | n, k, i, q, [], hn, hk, hd, hi => by
    obtain ⟨k, rfl⟩ : ∃ j, k = j + 1 := ⟨k - 1, by omega⟩
    have := drop_nil hd
    rw [bs_length] at this
    rw [path_closing.l0, if_neg (by omega)]
    rfl
  | 0, k, i, q, c :: l, hn, hk, hd, hi => by simp at hn
  | n + 1, k, i, q, c :: l, hn, hk, hd, hi => by
    obtain ⟨k, rfl⟩ : ∃ j, k = j + 1 + 1 := ⟨k - 2, by omega⟩
    obtain ⟨h1, h2, h3, h4⟩ := drop_cons hd
    have h5 : i < s.size := by rw [bs_length] at h1; exact h1
    simp only [List.length_cons] at hn
    have e34 : ((c.toNat : Int) = 34) = (c = 34) := byte_eq c 34 (by decide)
    have e92 : ((c.toNat : Int) = 92) = (c = 92) := byte_eq c 92 (by decide)
    have e62 : ((c.toNat : Int) = 62) = (c = 62) := byte_eq c 62 (by decide)
    have step (q' : Bool) (k' : Nat) (hk' : 2 * n + 2 ≤ k') : path_closing.l0 k' s q' ((i + 1 : Nat) : Int) = some (closeL (qn q') (i + 1) l) :=
      pathclosing_l0 s hs n k' (i + 1) q' l (by omega) hk' h3 (by omega)
    have hq2 : ¬ qn q = 2 := by cases q <;> decide
    rw [path_closing.l0, if_pos (by omega), if_pos (by omega), bt_drop hd]
    by_cases c34 : c = 34
    · have R : closeL (qn q) i (c :: l) = closeL (qn (!q)) (i + 1) l := by rw [closeL, if_neg hq2, if_pos c34]; cases q <;> rfl
      rw [if_pos (by rw [e34]; exact c34), R, wrap_succ i (by omega), step (!q) (k + 1) (by omega)]
    · rw [if_neg (by rw [e34]; exact c34)]
      by_cases c92 : c = 92
      · rw [if_pos (by rw [e92]; exact c92), path_closing.j2]
        cases q with
        | true =>
          have R : closeL (qn true) i (c :: l) = closeL 2 (i + 1) l := by rw [closeL, if_neg hq2, if_neg c34, if_pos ⟨c92, rfl⟩]
          rw [if_pos rfl, R, wrap_succ i (by omega)]
          cases l with
          | nil =>
            have hz := drop_nil h3
            rw [bs_length] at hz
            obtain ⟨k, rfl⟩ : ∃ j, k = j + 1 := ⟨k - 1, by omega⟩
            rw [wrap_succ (i + 1) (by omega), path_closing.l0, if_neg (by omega)]
            rfl
          | cons d r =>
            obtain ⟨g1, g2, g3, g4⟩ := drop_cons h3
            simp only [List.length_cons] at hn
            obtain ⟨n, rfl⟩ : ∃ j, n = j + 1 := ⟨n - 1, by omega⟩
            rw [wrap_succ (i + 1) (by omega), pathclosing_l0 s hs n k (i + 1 + 1) true r (by omega) (by omega) g3 (by omega)]
            rfl
        | false =>
          have R : closeL (qn false) i (c :: l) = closeL (qn false) (i + 1) l := by rw [closeL, if_neg hq2, if_neg c34, if_neg (by rintro ⟨_, h⟩; cases h), if_neg (by rintro ⟨h, _⟩; rw [c92] at h; cases h)]
          rw [if_neg (by decide), if_neg (by rw [e62, c92]; decide), R, wrap_succ i (by omega), step false k (by omega)]
      · rw [if_neg (by rw [e92]; exact c92), path_closing.j2, if_neg (by decide)]
        by_cases c62 : c = 62
        · rw [if_pos (by rw [e62]; exact c62)]
          cases q with
          | true =>
            have R : closeL (qn true) i (c :: l) = closeL (qn true) (i + 1) l := by rw [closeL, if_neg hq2, if_neg c34, if_neg (fun h => c92 h.1), if_neg (by rintro ⟨_, h⟩; cases h)]
            rw [if_pos rfl, R, wrap_succ i (by omega), step true k (by omega)]
          | false =>
            have R : closeL (qn false) i (c :: l) = (i : Int) := by rw [closeL, if_neg hq2, if_neg c34, if_neg (fun h => c92 h.1), if_pos ⟨c62, rfl⟩]
            rw [if_neg (by decide), R]
        · have R : closeL (qn q) i (c :: l) = closeL (qn q) (i + 1) l := by rw [closeL, if_neg hq2, if_neg c34, if_neg (fun h => c92 h.1), if_neg (fun h => c62 h.1)]
          rw [if_neg (by rw [e62]; exact c62), R, wrap_succ i (by omega), step q k (by omega)]
theorem pathclosing_is (s : ByteArray) (hs : s.size ≤ 1000000000) (k : Nat) (hk : 2 * s.size + 4 ≤ k) : path_closing.f k s = some (closing (bs s)) := by
  obtain ⟨k, rfl⟩ : ∃ j, k = j + 1 := ⟨k - 1, by omega⟩
  unfold path_closing.f closing
  rw [toList_bs]
  cases hb : bs s with
  | nil => rw [if_pos rfl, path_closing.j0, if_pos rfl]
  | cons c r =>
    have hz : s.size = r.length + 1 := by rw [← bs_length, hb]; rfl
    have h0 : bt s 0 = (c.toNat : Int) := by
      have := bt_drop (s := s) (i := 0) (c := c) (r := r) (by simpa using hb)
      simpa using this
    have e60 : ((c.toNat : Int) = 60) = (c = 60) := byte_eq c 60 (by decide)
    rw [if_neg (by simp), if_pos (by omega), h0, path_closing.j0]
    simp only []
    by_cases c60 : c = 60
    · rw [if_neg (by rw [bne_iff_ne, ne_eq, e60]; simp [c60]), if_pos c60]
      exact pathclosing_l0 s hs r.length k 1 false r (Nat.le_refl _) (by omega) (by rw [hb]; rfl) (by rw [hb]; simp)
    · rw [if_pos (by rw [bne_iff_ne, ne_eq, e60]; exact c60), if_neg c60]
theorem closeL_bound : ∀ (l : Bytes) (st i : Nat), closeL st i l = -1 ∨ ((i : Int) ≤ closeL st i l ∧ closeL st i l < i + l.length)
  | [], st, i => .inl rfl
  | c :: l, st, i => by
    have h (st' : Nat) := closeL_bound l st' (i + 1)
    unfold closeL
    simp only [List.length_cons]
    repeat' split
    all_goals first
      | (rename_i h1 h2 h3 h4; right; omega)
      | (have h0 := h 0; have h1 := h 1; have h2 := h 2; have hs := h st; have hss := h (1 - st); omega)
theorem closing_bound (l : Bytes) : closing l = -1 ∨ (1 ≤ closing l ∧ closing l < l.length) := by
  unfold closing
  cases l with
  | nil => exact .inl rfl
  | cons c r =>
    simp only []
    split
    · have := closeL_bound r 0 1
      simp only [List.length_cons]
      omega
    · exact .inl rfl
end Go.Proofs.YtgaaogijfikfeaaDoor.Pl
set_option linter.unusedVariables false
set_option linter.unusedSimpArgs false
namespace Go.Proofs.YtgaaogijfikfeaaDoor.Pl
open Go.RowKit Go.Proofs.YtgaaogijfikfeaaDoorW.PrintWords Go.Proofs.YtgaaogijfikfeaaDoor.Fn
def params (s : ByteArray) : List ByteArray := (Fn.cuts (findOne 32) 1 s).filter ne0
def splitAt (s : ByteArray) (n : Nat) : ByteArray × List ByteArray × Int × Int :=
  if (routed (s.extract 1 n)).2 = true then
    (if ne0 (s.extract (n + 1) s.size) = true ∧ begins 32 (s.extract (n + 1) s.size) = false then ((routed (s.extract 1 n)).1, [], 0, 3) else ((routed (s.extract 1 n)).1, params (s.extract (n + 1) s.size), 0, 0))
  else (⟨#[]⟩, [], 130, 0)
def split (s : ByteArray) : ByteArray × List ByteArray × Int × Int := if closing (bs s) < 0 then (⟨#[]⟩, [], 130, 0) else splitAt s (closing (bs s)).toNat
end Go.Proofs.YtgaaogijfikfeaaDoor.Pl
namespace Go.Proofs.YtgaaogijfikfeaaDoor.Fn
open Go.RowKit Go.Shelf Go.Proofs.YtgaaogijfikfeaaDoorW.PrintWords

def path_split.f (a0 : ByteArray) : Option (ByteArray × List ByteArray × Int × Int) := if a0.size ≤ 1000000000 then some (Pl.split a0) else none
attribute [local go_sem] Oper.semAt_some

set_option maxHeartbeats 4000000 in
set_option maxRecDepth 100000 in
theorem path_split.calls (a0 r1 : ByteArray) (r2 : List ByteArray) (r3 r4 : Int) (w : World) (hG : Glob w) (h : path_split.f a0 = some (r1, r2, r3, r4)) :
    Calls Tryd.prog 100 #[.string a0] w fun e w' => ∃ v0_ : Value, e = .returned (.tuple #[.string r1, v0_, .int .i64 r3, .int .i64 r4]) ∧ Kd.R Kd.string 9 w' w.heap.size (fun _ => True) v0_ r2 ∧ Below w.heap.size w w' := by
  unfold path_split.f at h
  by_cases hs : a0.size ≤ 1000000000
  case neg => rw [if_neg hs] at h; exact absurd h (by simp)
  rw [if_pos hs] at h
  have HR := Aside0.mk (Option.some.inj h)
  have HG := Aside0.mk hG
  clear h hG
  have h1 : 1 ≤ 3 := by decide
  have b0 := box_cell w (.slice none 0 0) 32
  obtain ⟨w0, hw0⟩ : ∃ w0, w.alloc (.cells #[.slice none 0 0] 32) = w0 := ⟨_, rfl⟩
  rw [hw0] at b0
  have B0 : Below w.heap.size w w0 := by rw [← hw0]; exact (Below.refl _ w).alloc (Nat.le_refl _) _
  have z0 : w0.heap.size = w.heap.size + 1 := by rw [← hw0]; simp
  obtain ⟨c0, f0⟩ := b0
  have HX : Hid (∀ (nd : Nat) (W : World), Below (w0.drewN nd).heap.size (w0.drewN nd) W → Aside0 (W.cell? ⟨w.heap.size, 0, none⟩ = some (.slice none 0 0) ∧ W.frozen? ⟨w.heap.size, 0, none⟩ = false ∧ w.heap.size + 1 ≤ W.heap.size ∧ Below w.heap.size w W)) := fun nd W hW => by
    have hz : (w0.drewN nd).heap.size = w.heap.size + 1 := z0
    rw [hz] at hW
    exact ⟨(hW.cell (p := ⟨w.heap.size, 0, none⟩) (by simp)).trans c0, (hW.frozen (p := ⟨w.heap.size, 0, none⟩) (by simp)).trans f0, by have := hW.size; omega, (pw_below_drewN B0 nd).trans (hW.mono (by omega))⟩
  have hcl := Pl.pathclosing_is a0 hs (2 * a0.size + 4) (Nat.le_refl _)
  have hbd := Pl.closing_bound (Pl.bs a0)
  rw [Pl.bs_length] at hbd
  have hsp : Pl.split a0 = if Pl.closing (Pl.bs a0) < 0 then (⟨#[]⟩, [], 130, 0) else Pl.splitAt a0 (Pl.closing (Pl.bs a0)).toNat := rfl
  obtain ⟨cn, hcn⟩ : ∃ cn, Pl.closing (Pl.bs a0) = cn := ⟨_, rfl⟩
  rw [hcn] at hcl hbd hsp
  clear hcn
  refine (callsIn_wide (n := 3)).1 ?_
  refine callsIn_of_wp_marks Tryd.func100 rfl trivial ?_ rfl
  simp only [Tryd.ntmps100, List.size_toArray, List.length_cons, List.length_nil, Nat.reduceAdd, Nat.reduceSub, Array.replicate_succ, Array.replicate_zero, List.push_toArray, List.append_toArray, List.nil_append, List.cons_append]
  have HS : ∀ (W : World) (x1 : ByteArray) (x3 x4 : Int), W.cell? ⟨w.heap.size, 0, none⟩ = some (.slice none 0 0) → Below w.heap.size w W → Pl.split a0 = (x1, [], x3, x4) → (x1 = r1 ∧ x3 = r3 ∧ x4 = r4 ∧ r2 = []) := fun W x1 x3 x4 _ _ hq => by
    have := HR.out
    rw [hq] at this
    simp only [Prod.mk.injEq] at this
    exact ⟨this.1, this.2.2.1, this.2.2.2, this.2.1.symm⟩
  rcases hbd with rfl | ⟨hb1, hb2⟩
  · rw [if_pos (by decide)] at hsp
    gi_wp2_with (refine ⟨trivial, ?_⟩; gi_at_call 143; refine (callsIn_wide.2 (path_closing.calls _ a0 (-1) _ hcl)).mono ?_; rintro e w' ⟨rfl, ⟨⟨nd, rfl⟩⟩⟩)
    have d0 : ((w0.drewN nd).setCell ⟨w.heap.size, 0, none⟩ (.slice none 0 0)).cell? ⟨w.heap.size, 0, none⟩ = some (.slice none 0 0) := World.cell?_setCell_same' _ _ _ (by rw [show (w0.drewN nd).cell? ⟨w.heap.size, 0, none⟩ = _ from c0]; rfl)
    have B1 : Below w.heap.size w ((w0.drewN nd).setCell ⟨w.heap.size, 0, none⟩ (.slice none 0 0)) := (pw_below_drewN B0 nd).setCell (p := ⟨w.heap.size, 0, none⟩) (Nat.le_refl _) _
    obtain ⟨rfl, rfl, rfl, rfl⟩ := HS _ _ _ _ d0 B1 hsp
    refine ⟨.tuple #[.string ⟨#[]⟩, .slice none 0 0, .int .i64 130, .int .i64 0], ?_, .slice none 0 0, rfl, Kd.R_nil _ _ _ _ _, B1⟩
    simp [results, Tryd.f100, go_sem, d0]
  obtain ⟨N, rfl⟩ := Int.eq_ofNat_of_zero_le (show 0 ≤ cn by omega)
  rw [if_neg (by omega), Int.toNat_natCast] at hsp
  unfold Pl.splitAt at hsp
  have n1 : ((N : Int) < 0) = False := eq_false (by omega)
  have n1' : decide ((N : Int) < 0) = false := decide_eq_false (by omega)
  have n2 : ((1 : Int) ≤ (N : Int)) = True := eq_true (by omega)
  have n3 : ((N : Int) ≤ (a0.size : Int)) = True := eq_true (by omega)
  have n4 : ((0 : Int) ≤ (N : Int)) = True := eq_true (by omega)
  have n5 : wrap64 ((N : Int) + 1) = (N : Int) + 1 := Pl.wrap_id (by omega) (by omega)
  have n6 : ((N : Int) + 1 ≤ (a0.size : Int)) = True := eq_true (by omega)
  have n7 : ((0 : Int) ≤ (N : Int) + 1) = True := eq_true (by omega)
  have n8 : ((N : Int) + 1).toNat = N + 1 := by omega
  have hrt : path_routed.f (a0.extract 1 N) = some (Pl.routed (a0.extract 1 N)) := by unfold path_routed.f; rw [if_pos (by simp only [ByteArray.size_extract]; omega)]
  obtain ⟨⟨i1, rb⟩, hq⟩ : ∃ q, Pl.routed (a0.extract 1 N) = q := ⟨_, rfl⟩
  rw [hq] at hrt hsp
  clear hq
  cases rb with
  | false =>
    rw [if_neg (by simp)] at hsp
    gi_wp2_with (first
        | (refine ⟨trivial, ?_⟩; gi_at_call 143; refine (callsIn_wide.2 (path_closing.calls _ a0 (N : Int) _ hcl)).mono ?_; rintro e w' ⟨rfl, ⟨⟨nd, rfl⟩⟩⟩)
        | (refine ⟨trivial, ?_⟩; gi_at_call 144; refine (callsIn_wide.2 (path_routed.calls _ i1 false _ (HG.out.below (pw_below_drewN B0 nd)) hrt)).mono ?_; rintro e w1 ⟨rfl, hB⟩; obtain ⟨d0, g0, z1, B1⟩ := (HX.out nd w1 hB).out))
    have d1 : (w1.setCell ⟨w.heap.size, 0, none⟩ (.slice none 0 0)).cell? ⟨w.heap.size, 0, none⟩ = some (.slice none 0 0) := World.cell?_setCell_same' _ _ _ (by rw [show w1.cell? ⟨w.heap.size, 0, none⟩ = _ from d0]; rfl)
    have B2 : Below w.heap.size w (w1.setCell ⟨w.heap.size, 0, none⟩ (.slice none 0 0)) := B1.setCell (p := ⟨w.heap.size, 0, none⟩) (Nat.le_refl _) _
    obtain ⟨rfl, rfl, rfl, rfl⟩ := HS _ _ _ _ d1 B2 hsp
    refine ⟨.tuple #[.string ⟨#[]⟩, .slice none 0 0, .int .i64 130, .int .i64 0], ?_, .slice none 0 0, rfl, Kd.R_nil _ _ _ _ _, B2⟩
    simp [results, Tryd.f100, go_sem, d1]
  | true =>
    rw [if_pos rfl] at hsp
    obtain ⟨rs, hrs⟩ : ∃ rs, a0.extract (N + 1) a0.size = rs := ⟨_, rfl⟩
    have hrz : rs.size ≤ 1000000000 := by rw [← hrs]; simp only [ByteArray.size_extract]; omega
    rw [hrs] at hsp
    have hrs' : a0.extract (N + 1) a0.size = rs := hrs
    by_cases he : rs.toList = []
    · have e1 : (rs.toList == ([] : List UInt8)) = true := by rw [he]; rfl
      have e2 : (rs.toList != ([] : List UInt8)) = false := by rw [he]; rfl
      have e3 : Pl.ne0 rs = false := by unfold Pl.ne0; rw [he]; rfl
      have e4 : rs.toList.isEmpty = true := by rw [he]; rfl
      rw [if_neg (by rw [e3]; simp)] at hsp
      gi_wp2_with (first
        | (refine ⟨trivial, ?_⟩; gi_at_call 143; refine (callsIn_wide.2 (path_closing.calls _ a0 (N : Int) _ hcl)).mono ?_; rintro e w' ⟨rfl, ⟨⟨nd, rfl⟩⟩⟩)
        | (refine ⟨trivial, ?_⟩; gi_at_call 144; refine (callsIn_wide.2 (path_routed.calls _ i1 true _ (HG.out.below (pw_below_drewN B0 nd)) hrt)).mono ?_; rintro e w1 ⟨rfl, hB⟩; obtain ⟨d0, g0, z1, B1⟩ := (HX.out nd w1 hB).out)
        | fail)
      refine ⟨trivial, ?_⟩
      gi_wp2_with (first
        | (refine ⟨trivial, ?_⟩; gi_at_call 84; refine (callsIn_wide.2 (SplitSeq_calls _ _ _)).mono ?_; rintro e W2 ⟨rfl, hbx, hz, hB2⟩))
      have e0 := (hB2.cell (p := ⟨w.heap.size, 0, none⟩) (by show w.heap.size < w1.heap.size; omega)).trans d0
      have k0 := (hB2.frozen (p := ⟨w.heap.size, 0, none⟩) (by show w.heap.size < w1.heap.size; omega)).trans g0
      have B2 : Below w.heap.size w W2 := (B1).trans (hB2.mono (by show w.heap.size ≤ w1.heap.size; omega))
      clear hB
      obtain ⟨BS, hBS⟩ : ∃ BS, w1.heap.size = BS := ⟨_, rfl⟩
      have hbx' : SplitBoxes BS rs ⟨#[32]⟩ W2 := by rw [← hBS]; exact hbx
      have hz' : W2.heap.size = BS + 3 := by rw [← hBS]; exact hz
      clear hbx hz hB2
      rw [hBS] at z1
      refine split_range (bs := BS) (D := fun b => BS ≤ b ∧ b ≤ BS + 2) (xs := Fn.cuts (findOne 32) 1 rs) h1 (by simp [Act.eval, hBS])
        (split_gives_one 2 (by decide) BS rs 32 (by omega) W2 (by omega) hbx') (fun b hb => by omega)
        (fun pre W => (∃ v, W.cell? ⟨w.heap.size, 0, none⟩ = some v ∧ W.frozen? ⟨w.heap.size, 0, none⟩ = false ∧ Kd.R Kd.string 9 W w.heap.size (fun k => k ≠ w.heap.size ∧ (k < BS ∨ BS + 2 < k)) v (pre.filter Pl.ne0)) ∧ Below w.heap.size W2 W)
        (fun c pre W => False)
        (OwnFrom.and (Own.from (fun s A B row hs hg hr => by obtain ⟨v, h1, h2, h3⟩ := hs; exact ⟨v, cell_kept h1 hg hr, (frozen_kept h1 hg hr).trans h2, R_walk h3 hg hr⟩) _) (ownFrom_below B2.size (by omega)))
        (fun c => Own.from (fun s A B row hs hg hr => hs) _)
        (fun s A v hs => by
          obtain ⟨⟨v', h1, h2, h3⟩, h4⟩ := hs
          exact ⟨⟨v', (World.cell?_setCell_other _ _ _ _ (by first | (simp; done) | (simp; omega))).trans h1, by rw [World.frozen?_setCell]; exact h2, Kd.R_far (p := ⟨BS, 0, none⟩) h3 (fun k hk => by show k ≠ BS; omega) _⟩, h4.setCell (p := ⟨BS, 0, none⟩) (by show w.heap.size ≤ BS; omega) _⟩)
        ⟨⟨.slice none 0 0, e0, k0, Kd.R_nil _ _ _ _ _⟩, Below.refl _ W2⟩
        (fun x => { tmps := #[.string a0, undef, .string i1, .pointer (some ⟨w.heap.size, 0, none⟩), .int .i64 0, .int .i64 0, .int .i64 (N : Int), .bool true, .string rs, .string x, .string a0, .int .i64 (N : Int), .int .i64 (N : Int), .bool false, .tuple #[.string i1, .bool true], .string a0, .int .i64 (N : Int), .string (a0.extract 1 N), .tuple #[.string i1, .bool true], .string i1, .bool true, .bool true, .bool false, .string a0, .int .i64 (N : Int), .int .i64 ((N : Int) + 1), .string rs, .string rs, .bool false, .bool false, undef, undef, undef, .bool false, undef, .string rs, .func (.func 168) #[] #[.pointer (some ⟨BS + 1, 0, none⟩), .pointer (some ⟨BS, 0, none⟩), .pointer (some ⟨BS + 2, 0, none⟩)], .string x, undef, undef, undef, undef, undef, undef, undef, undef], defers := [] }) ?assign ?body ?done ?stop
      case assign =>
        intro l x W K hK
        gi_wp2
        exact hK
      case body =>
        rintro l pre x W ⟨⟨v, hc, hf, hR⟩, hBW⟩ hpx
        have hwz : BS + 3 ≤ W.heap.size := by have := hBW.size; omega
        have hlen := prefix_len hpx
        have hcn : (Fn.cuts (findOne 32) 1 rs).length ≤ rs.size + 1 := cutsN_len _ _ _ _
        have hfl : (pre.filter Pl.ne0).length ≤ pre.length := List.length_filter_le _ _
        have h11 : 1 ≤ 3 - 1 - 1 := by decide
        obtain ⟨A', c', rfl⟩ := Kd.R_slice hR
        by_cases hx : x.toList = []
        · have hx1 : (x.toList == ([] : List UInt8)) = true := by rw [hx]; rfl
          have hx2 : (x.toList != ([] : List UInt8)) = false := by rw [hx]; rfl
          have hx3 : Pl.ne0 x = false := by unfold Pl.ne0; rw [hx]; rfl
          gi_wp2
          exact ⟨⟨Nat.le_refl _, fun _ _ h _ => h⟩, fun _ _ => rfl, ⟨_, hc, hf, by rw [List.filter_append, List.filter_cons, hx3]; simpa using hR⟩, hBW⟩
        · have hx3 : Pl.ne0 x = true := by unfold Pl.ne0; cases h : x.toList with | nil => exact absurd h hx | cons a b => rfl
          have hx1 : (x.toList == ([] : List UInt8)) = false := beq_eq_false_iff_ne.mpr hx
          have hx2 : (x.toList != ([] : List UInt8)) = true := bne_iff_ne.mpr hx
          have hHR := Aside0.mk hR
          gi_wp2_with (gi_at_builtin; go_loud (refine R_append_in (w0 := w) Kd.string w.heap.size rfl _ _ 32 9 (.string ⟨#[]⟩) 16 rfl rfl (by kernel_rfl) rfl (by decide) (by decide) (.slice A' (pre.filter Pl.ne0).length c') (pre.filter Pl.ne0) x [.string x] (fun k => k ≠ w.heap.size ∧ (k < BS ∨ BS + 2 < k)) (fun _ => False) rfl rfl (by first | rfl | exact rfl) (fun _ h => h.elim) (fun k hk => ⟨by omega, by omega⟩) hHR.out (B2.trans hBW) (by omega) (by omega) ?_); intro v1 W3 hR3 hB3 hg3 hat3; obtain ⟨A3, c3, rfl⟩ := Kd.R_slice hR3; rw [show (pre.filter Pl.ne0 ++ [x]).length = (pre.filter Pl.ne0).length + 1 from List.length_append] at hR3; have hc3 := (World.cell?_of_block (hg3.block w.heap.size (by omega) (fun e => (hHR.out.1 _ e.symm).1 rfl))).trans hc; have hf3 := (World.frozen?_of_block (hg3.block w.heap.size (by omega) (fun e => (hHR.out.1 _ e.symm).1 rfl))).trans hf)
          have KK : KeepsOthers W W3 := keepsOthers_grown hg3 (fun k hk => R_cells hHR.out k hk)
          have hKD : ∀ b, (BS ≤ b ∧ b ≤ BS + 2) → (W3.setCell ⟨w.heap.size, 0, none⟩ (.slice A3 ((pre.filter Pl.ne0).length + 1) c3)).heap[b]? = W.heap[b]? := fun b hb => by
            rw [Below.heap_setCell _ _ _ _ (by show b ≠ w.heap.size; omega)]
            exact hg3.block b (by omega) (fun e => by have := (hHR.out.1 _ e.symm).2; omega)
          exact ⟨KK.trans (KeepsOthers.setCell _ _ _), hKD, ⟨_, World.cell?_setCell_same' _ _ _ (by rw [hc3]; rfl), by rw [World.frozen?_setCell]; exact hf3, by rw [show (pre ++ [x]).filter Pl.ne0 = pre.filter Pl.ne0 ++ [x] from by simp [hx3]]; exact Kd.R_far (p := ⟨w.heap.size, 0, none⟩) hR3 (fun k hk => hk.1) _⟩, (hBW.grown hg3 (by omega) (fun k hk => R_base hHR.out k hk)).setCell (p := ⟨w.heap.size, 0, none⟩) (Nat.le_refl _) _⟩
      case done =>
        rintro d W hd ⟨⟨v, hc, hf, hR⟩, hBW⟩ hK
        obtain ⟨A', c', rfl⟩ := Kd.R_slice hR
        have hcw : W.drew.cell? ⟨w.heap.size, 0, none⟩ = _ := hc
        have hfw : W.drew.frozen? ⟨w.heap.size, 0, none⟩ = _ := hf
        gi_wp2
        gi_region
        gi_wp2
        have hK' : ((W.setCell ⟨w.heap.size, 0, none⟩ (.slice A' ((Fn.cuts (findOne 32) 1 rs).filter Pl.ne0).length c')).drew).heap[d]? = some (.deferred (some [])) := (KeepsOthers.setCell W ⟨w.heap.size, 0, none⟩ _).same d _ hK rfl
        refine ⟨by simp, .inl ⟨_, _, rfl, run_takeDeferred hK', ?_⟩⟩
        have hcc : ((W.setCell ⟨w.heap.size, 0, none⟩ (.slice A' ((Fn.cuts (findOne 32) 1 rs).filter Pl.ne0).length c')).drew).cell? ⟨w.heap.size, 0, none⟩ = _ := World.cell?_setCell_same' W ⟨w.heap.size, 0, none⟩ (.slice A' ((Fn.cuts (findOne 32) 1 rs).filter Pl.ne0).length c') (by rw [hc]; rfl)
        have hc5 := cell_kept hcc (grownBy_putObj' _ d (.deferred none)) (fun r e => by cases e; exact ⟨_, hK', rfl⟩)
        have hR5 := R_walk (Kd.R_drew (Kd.R_far (p := ⟨w.heap.size, 0, none⟩) hR (fun k hk => hk.1) (.slice A' ((Fn.cuts (findOne 32) 1 rs).filter Pl.ne0).length c'))) (grownBy_putObj' _ d (.deferred none)) (fun r e => by cases e; exact ⟨_, hK', rfl⟩)
        have B5 : Below w.heap.size w ((W.setCell ⟨w.heap.size, 0, none⟩ (.slice A' ((Fn.cuts (findOne 32) 1 rs).filter Pl.ne0).length c')).drew) := below_drew1 ((B2.trans hBW).setCell (p := ⟨w.heap.size, 0, none⟩) (Nat.le_refl _) _)
        have hfin := HR.out
        rw [hsp] at hfin
        simp only [Prod.mk.injEq] at hfin
        obtain ⟨rfl, rfl, rfl, rfl⟩ := hfin
        refine ⟨.tuple #[.string i1, .slice A' ((Fn.cuts (findOne 32) 1 rs).filter Pl.ne0).length c', .int .i64 0, .int .i64 0], ?_, _, rfl, Kd.R_mono hR5 (fun _ _ => trivial), B5.trans (belowK_b (w := w) (Nat.le_refl _) _ d _ _ (by omega) hK' rfl rfl)⟩
        simp [results, Tryd.f100, go_sem, hc5]
      case stop =>
        rintro d c pre W hd hpre h hK
        exact h.elim
    · have e1 : (rs.toList == ([] : List UInt8)) = false := beq_eq_false_iff_ne.mpr he
      have e2 : (rs.toList != ([] : List UInt8)) = true := bne_iff_ne.mpr he
      have e3 : Pl.ne0 rs = true := by unfold Pl.ne0; cases h : rs.toList with | nil => exact absurd h he | cons a b => rfl
      have e4 : rs.toList.isEmpty = false := by cases h : rs.toList with | nil => exact absurd h he | cons a b => rfl
      have hp := Pl.hasprefix_is 32 rs
      cases hb : Pl.begins 32 rs with
      | false =>
        rw [hb] at hp
        rw [if_pos ⟨e3, hb⟩] at hsp
        gi_wp2_with (first
        | (refine ⟨trivial, ?_⟩; gi_at_call 143; refine (callsIn_wide.2 (path_closing.calls _ a0 (N : Int) _ hcl)).mono ?_; rintro e w' ⟨rfl, ⟨⟨nd, rfl⟩⟩⟩)
        | (refine ⟨trivial, ?_⟩; gi_at_call 144; refine (callsIn_wide.2 (path_routed.calls _ i1 true _ (HG.out.below (pw_below_drewN B0 nd)) hrt)).mono ?_; rintro e w1 ⟨rfl, hB⟩; obtain ⟨d0, g0, z1, B1⟩ := (HX.out nd w1 hB).out)
        | (refine ⟨trivial, ?_⟩; gi_at_call 145; refine (callsIn_wide.2 (strings_HasPrefix.calls _ _ false _ hp)).mono ?_; rintro e w' ⟨rfl, ⟨⟨nd2, rfl⟩⟩⟩))
        have d1 : ((w1.drewN nd2).setCell ⟨w.heap.size, 0, none⟩ (.slice none 0 0)).cell? ⟨w.heap.size, 0, none⟩ = some (.slice none 0 0) := World.cell?_setCell_same' _ _ _ (by rw [show (w1.drewN nd2).cell? ⟨w.heap.size, 0, none⟩ = _ from d0]; rfl)
        have B2 : Below w.heap.size w ((w1.drewN nd2).setCell ⟨w.heap.size, 0, none⟩ (.slice none 0 0)) := (pw_below_drewN B1 nd2).setCell (p := ⟨w.heap.size, 0, none⟩) (Nat.le_refl _) _
        obtain ⟨rfl, rfl, rfl, rfl⟩ := HS _ _ _ _ d1 B2 hsp
        refine ⟨.tuple #[.string i1, .slice none 0 0, .int .i64 0, .int .i64 3], ?_, .slice none 0 0, rfl, Kd.R_nil _ _ _ _ _, B2⟩
        simp [results, Tryd.f100, go_sem, d1]
      | true =>
        rw [hb] at hp
        rw [if_neg (by rw [hb]; simp)] at hsp
        gi_wp2_with (first
          | (refine ⟨trivial, ?_⟩; gi_at_call 143; refine (callsIn_wide.2 (path_closing.calls _ a0 (N : Int) _ hcl)).mono ?_; rintro e w' ⟨rfl, ⟨⟨nd, rfl⟩⟩⟩)
          | (refine ⟨trivial, ?_⟩; gi_at_call 144; refine (callsIn_wide.2 (path_routed.calls _ i1 true _ (HG.out.below (pw_below_drewN B0 nd)) hrt)).mono ?_; rintro e w1 ⟨rfl, hB⟩; obtain ⟨d0, g0, z1, B1⟩ := (HX.out nd w1 hB).out)
          | (refine ⟨trivial, ?_⟩; gi_at_call 145; refine (callsIn_wide.2 (strings_HasPrefix.calls _ _ true _ hp)).mono ?_; rintro e w' ⟨rfl, ⟨⟨nd2, rfl⟩⟩⟩)
          | (refine ⟨trivial, ?_⟩; gi_at_call 84; refine (callsIn_wide.2 (SplitSeq_calls _ _ _)).mono ?_; rintro e W2 ⟨rfl, hbx, hz, hB2⟩))
        have e0 := (hB2.cell (p := ⟨w.heap.size, 0, none⟩) (by show w.heap.size < w1.heap.size; omega)).trans d0
        have k0 := (hB2.frozen (p := ⟨w.heap.size, 0, none⟩) (by show w.heap.size < w1.heap.size; omega)).trans g0
        have B2 : Below w.heap.size w W2 := (pw_below_drewN B1 nd2).trans (hB2.mono (by show w.heap.size ≤ w1.heap.size; omega))
        clear hB
        obtain ⟨BS, hBS⟩ : ∃ BS, w1.heap.size = BS := ⟨_, rfl⟩
        have hbx' : SplitBoxes BS rs ⟨#[32]⟩ W2 := by rw [← hBS]; exact hbx
        have hz' : W2.heap.size = BS + 3 := by rw [← hBS]; exact hz
        clear hbx hz hB2
        rw [hBS] at z1
        refine split_range (bs := BS) (D := fun b => BS ≤ b ∧ b ≤ BS + 2) (xs := Fn.cuts (findOne 32) 1 rs) h1 (by simp [Act.eval, hBS])
          (split_gives_one 2 (by decide) BS rs 32 (by omega) W2 (by omega) hbx') (fun b hb => by omega)
          (fun pre W => (∃ v, W.cell? ⟨w.heap.size, 0, none⟩ = some v ∧ W.frozen? ⟨w.heap.size, 0, none⟩ = false ∧ Kd.R Kd.string 9 W w.heap.size (fun k => k ≠ w.heap.size ∧ (k < BS ∨ BS + 2 < k)) v (pre.filter Pl.ne0)) ∧ Below w.heap.size W2 W)
          (fun c pre W => False)
          (OwnFrom.and (Own.from (fun s A B row hs hg hr => by obtain ⟨v, h1, h2, h3⟩ := hs; exact ⟨v, cell_kept h1 hg hr, (frozen_kept h1 hg hr).trans h2, R_walk h3 hg hr⟩) _) (ownFrom_below B2.size (by omega)))
          (fun c => Own.from (fun s A B row hs hg hr => hs) _)
          (fun s A v hs => by
            obtain ⟨⟨v', h1, h2, h3⟩, h4⟩ := hs
            exact ⟨⟨v', (World.cell?_setCell_other _ _ _ _ (by first | (simp; done) | (simp; omega))).trans h1, by rw [World.frozen?_setCell]; exact h2, Kd.R_far (p := ⟨BS, 0, none⟩) h3 (fun k hk => by show k ≠ BS; omega) _⟩, h4.setCell (p := ⟨BS, 0, none⟩) (by show w.heap.size ≤ BS; omega) _⟩)
          ⟨⟨.slice none 0 0, e0, k0, Kd.R_nil _ _ _ _ _⟩, Below.refl _ W2⟩
          (fun x => { tmps := #[.string a0, undef, .string i1, .pointer (some ⟨w.heap.size, 0, none⟩), .int .i64 0, .int .i64 0, .int .i64 (N : Int), .bool true, .string rs, .string x, .string a0, .int .i64 (N : Int), .int .i64 (N : Int), .bool false, .tuple #[.string i1, .bool true], .string a0, .int .i64 (N : Int), .string (a0.extract 1 N), .tuple #[.string i1, .bool true], .string i1, .bool true, .bool true, .bool false, .string a0, .int .i64 (N : Int), .int .i64 ((N : Int) + 1), .string rs, .string rs, .bool true, .bool true, .string rs, .bool true, .bool false, .bool false, undef, .string rs, .func (.func 168) #[] #[.pointer (some ⟨BS + 1, 0, none⟩), .pointer (some ⟨BS, 0, none⟩), .pointer (some ⟨BS + 2, 0, none⟩)], .string x, undef, undef, undef, undef, undef, undef, undef, undef], defers := [] }) ?assign ?body ?done ?stop
        case assign =>
          intro l x W K hK
          gi_wp2
          exact hK
        case body =>
          rintro l pre x W ⟨⟨v, hc, hf, hR⟩, hBW⟩ hpx
          have hwz : BS + 3 ≤ W.heap.size := by have := hBW.size; omega
          have hlen := prefix_len hpx
          have hcn : (Fn.cuts (findOne 32) 1 rs).length ≤ rs.size + 1 := cutsN_len _ _ _ _
          have hfl : (pre.filter Pl.ne0).length ≤ pre.length := List.length_filter_le _ _
          have h11 : 1 ≤ 3 - 1 - 1 := by decide
          obtain ⟨A', c', rfl⟩ := Kd.R_slice hR
          by_cases hx : x.toList = []
          · have hx1 : (x.toList == ([] : List UInt8)) = true := by rw [hx]; rfl
            have hx2 : (x.toList != ([] : List UInt8)) = false := by rw [hx]; rfl
            have hx3 : Pl.ne0 x = false := by unfold Pl.ne0; rw [hx]; rfl
            gi_wp2
            exact ⟨⟨Nat.le_refl _, fun _ _ h _ => h⟩, fun _ _ => rfl, ⟨_, hc, hf, by rw [List.filter_append, List.filter_cons, hx3]; simpa using hR⟩, hBW⟩
          · have hx3 : Pl.ne0 x = true := by unfold Pl.ne0; cases h : x.toList with | nil => exact absurd h hx | cons a b => rfl
            have hx1 : (x.toList == ([] : List UInt8)) = false := beq_eq_false_iff_ne.mpr hx
            have hx2 : (x.toList != ([] : List UInt8)) = true := bne_iff_ne.mpr hx
            have hHR := Aside0.mk hR
            gi_wp2_with (gi_at_builtin; go_loud (refine R_append_in (w0 := w) Kd.string w.heap.size rfl _ _ 32 9 (.string ⟨#[]⟩) 16 rfl rfl (by kernel_rfl) rfl (by decide) (by decide) (.slice A' (pre.filter Pl.ne0).length c') (pre.filter Pl.ne0) x [.string x] (fun k => k ≠ w.heap.size ∧ (k < BS ∨ BS + 2 < k)) (fun _ => False) rfl rfl (by first | rfl | exact rfl) (fun _ h => h.elim) (fun k hk => ⟨by omega, by omega⟩) hHR.out (B2.trans hBW) (by omega) (by omega) ?_); intro v1 W3 hR3 hB3 hg3 hat3; obtain ⟨A3, c3, rfl⟩ := Kd.R_slice hR3; rw [show (pre.filter Pl.ne0 ++ [x]).length = (pre.filter Pl.ne0).length + 1 from List.length_append] at hR3; have hc3 := (World.cell?_of_block (hg3.block w.heap.size (by omega) (fun e => (hHR.out.1 _ e.symm).1 rfl))).trans hc; have hf3 := (World.frozen?_of_block (hg3.block w.heap.size (by omega) (fun e => (hHR.out.1 _ e.symm).1 rfl))).trans hf)
            have KK : KeepsOthers W W3 := keepsOthers_grown hg3 (fun k hk => R_cells hHR.out k hk)
            have hKD : ∀ b, (BS ≤ b ∧ b ≤ BS + 2) → (W3.setCell ⟨w.heap.size, 0, none⟩ (.slice A3 ((pre.filter Pl.ne0).length + 1) c3)).heap[b]? = W.heap[b]? := fun b hb => by
              rw [Below.heap_setCell _ _ _ _ (by show b ≠ w.heap.size; omega)]
              exact hg3.block b (by omega) (fun e => by have := (hHR.out.1 _ e.symm).2; omega)
            exact ⟨KK.trans (KeepsOthers.setCell _ _ _), hKD, ⟨_, World.cell?_setCell_same' _ _ _ (by rw [hc3]; rfl), by rw [World.frozen?_setCell]; exact hf3, by rw [show (pre ++ [x]).filter Pl.ne0 = pre.filter Pl.ne0 ++ [x] from by simp [hx3]]; exact Kd.R_far (p := ⟨w.heap.size, 0, none⟩) hR3 (fun k hk => hk.1) _⟩, (hBW.grown hg3 (by omega) (fun k hk => R_base hHR.out k hk)).setCell (p := ⟨w.heap.size, 0, none⟩) (Nat.le_refl _) _⟩
        case done =>
          rintro d W hd ⟨⟨v, hc, hf, hR⟩, hBW⟩ hK
          obtain ⟨A', c', rfl⟩ := Kd.R_slice hR
          have hcw : W.drew.cell? ⟨w.heap.size, 0, none⟩ = _ := hc
          have hfw : W.drew.frozen? ⟨w.heap.size, 0, none⟩ = _ := hf
          gi_wp2
          gi_region
          gi_wp2
          have hK' : ((W.setCell ⟨w.heap.size, 0, none⟩ (.slice A' ((Fn.cuts (findOne 32) 1 rs).filter Pl.ne0).length c')).drew).heap[d]? = some (.deferred (some [])) := (KeepsOthers.setCell W ⟨w.heap.size, 0, none⟩ _).same d _ hK rfl
          refine ⟨by simp, .inl ⟨_, _, rfl, run_takeDeferred hK', ?_⟩⟩
          have hcc : ((W.setCell ⟨w.heap.size, 0, none⟩ (.slice A' ((Fn.cuts (findOne 32) 1 rs).filter Pl.ne0).length c')).drew).cell? ⟨w.heap.size, 0, none⟩ = _ := World.cell?_setCell_same' W ⟨w.heap.size, 0, none⟩ (.slice A' ((Fn.cuts (findOne 32) 1 rs).filter Pl.ne0).length c') (by rw [hc]; rfl)
          have hc5 := cell_kept hcc (grownBy_putObj' _ d (.deferred none)) (fun r e => by cases e; exact ⟨_, hK', rfl⟩)
          have hR5 := R_walk (Kd.R_drew (Kd.R_far (p := ⟨w.heap.size, 0, none⟩) hR (fun k hk => hk.1) (.slice A' ((Fn.cuts (findOne 32) 1 rs).filter Pl.ne0).length c'))) (grownBy_putObj' _ d (.deferred none)) (fun r e => by cases e; exact ⟨_, hK', rfl⟩)
          have B5 : Below w.heap.size w ((W.setCell ⟨w.heap.size, 0, none⟩ (.slice A' ((Fn.cuts (findOne 32) 1 rs).filter Pl.ne0).length c')).drew) := below_drew1 ((B2.trans hBW).setCell (p := ⟨w.heap.size, 0, none⟩) (Nat.le_refl _) _)
          have hfin := HR.out
          rw [hsp] at hfin
          simp only [Prod.mk.injEq] at hfin
          obtain ⟨rfl, rfl, rfl, rfl⟩ := hfin
          refine ⟨.tuple #[.string i1, .slice A' ((Fn.cuts (findOne 32) 1 rs).filter Pl.ne0).length c', .int .i64 0, .int .i64 0], ?_, _, rfl, Kd.R_mono hR5 (fun _ _ => trivial), B5.trans (belowK_b (w := w) (Nat.le_refl _) _ d _ _ (by omega) hK' rfl rfl)⟩
          simp [results, Tryd.f100, go_sem, hc5]
        case stop =>
          rintro d c pre W hd hpre h hK
          exact h.elim
end Go.Proofs.YtgaaogijfikfeaaDoor.Fn
-- written by xprint.py of this session over the kit's printer; not trusted: Lean checks it
namespace Go.Proofs.YtgaaogijfikfeaaDoor.Fn
open Go.RowKit Go.Proofs.YtgaaogijfikfeaaDoorW.PrintWords Go.Proofs.YtgaaogijfikfeaaDoorW.PrintLast Go.Proofs.YtgaaogijfikfeaaDoorW.PrintMore
attribute [local go_sem] max2_int min2_int max_two min_two max_three min_three max_four min_four   -- for this text's walks alone
set_option linter.unusedVariables false
set_option linter.unusedSimpArgs false

/-! ### path_From: function 49 -/
def path_From.f (k : Nat) (a0 : ByteArray) : Option (ByteArray × ByteArray × Bool × Int × Int) := (path_split.f a0).bind fun bt245 => (if bt245.2.2.1 = 0 then (if bt245.1.toList = ([] : List UInt8) then (if bt245.2.2.2 = 0 then ((path_options.f k (⟨#[]⟩ : ByteArray) (⟨#[]⟩ : ByteArray) (bt245.1.toList == ([] : List UInt8)) 0 bt245.2.1).bind fun bt252 => (some (bt252.1, bt252.2.1, bt252.2.2.1, bt252.2.2.2.1, bt252.2.2.2.2))) else (some ((⟨#[]⟩ : ByteArray), (⟨#[]⟩ : ByteArray), false, 0, bt245.2.2.2))) else ((addr_Strict.f k bt245.1).bind fun bt257 => (if bt257.2.2 = 0 then (if bt245.2.2.2 = 0 then ((path_options.f k bt257.1 bt257.2.1 (bt245.1.toList == ([] : List UInt8)) 0 bt245.2.1).bind fun bt261 => (some (bt261.1, bt261.2.1, bt261.2.2.1, bt261.2.2.2.1, bt261.2.2.2.2))) else (some ((⟨#[]⟩ : ByteArray), (⟨#[]⟩ : ByteArray), false, 0, bt245.2.2.2))) else (some ((⟨#[]⟩ : ByteArray), (⟨#[]⟩ : ByteArray), false, 0, bt257.2.2))))) else (some ((⟨#[]⟩ : ByteArray), (⟨#[]⟩ : ByteArray), false, 0, bt245.2.2.1)))
theorem path_From.mono : ∀ a0 k, LeO (path_From.f k a0) (path_From.f (k + 1) a0) := by
 intro a0 k
 unfold path_From.f
 repeat' first
   | (with_reducible exact addr_Strict.mono _ _)
   | (with_reducible exact path_options.mono _ _ _ _ _ _)
   | (with_reducible exact LeO.refl _)
   | (with_reducible exact LeO.none _)
   | (with_reducible refine LeO.ite ?_ ?_)
   | (with_reducible refine LeO.bind ?_ (fun _ => ?_))
   | exact addr_Strict.mono _ _
   | exact path_options.mono _ _ _ _ _ _
   | exact LeO.none _
   | refine LeO.ite ?_ ?_
   | refine LeO.bind ?_ (fun _ => ?_)
set_option maxHeartbeats 8000000 in
set_option maxRecDepth 100000 in
theorem path_From.calls (k : Nat) (a0 : ByteArray) (r1 : ByteArray) (r2 : ByteArray) (r3 : Bool) (r4 : Int) (r5 : Int) (w : World) (hG : Glob w) (h : path_From.f k a0 = some (r1, r2, r3, r4, r5)) :
  Calls Tryd.prog 49 #[.string a0] w fun e w' => e = .returned (.tuple #[.agg #[.string r1, .string r2, .bool r3, .int .i64 r4], .int .i64 r5]) ∧ Below w.heap.size w w' := by
 have hu77 := Tryd.underlying77
 have hu51 := Tryd.underlying51
 have HB := Aside0.mk (Below.refl w.heap.size w)
 have H : ((path_split.f a0).bind fun bt245 => (if bt245.2.2.1 = 0 then (if bt245.1.toList = ([] : List UInt8) then (if bt245.2.2.2 = 0 then ((path_options.f k (⟨#[]⟩ : ByteArray) (⟨#[]⟩ : ByteArray) (bt245.1.toList == ([] : List UInt8)) 0 bt245.2.1).bind fun bt252 => (some (bt252.1, bt252.2.1, bt252.2.2.1, bt252.2.2.2.1, bt252.2.2.2.2))) else (some ((⟨#[]⟩ : ByteArray), (⟨#[]⟩ : ByteArray), false, 0, bt245.2.2.2))) else ((addr_Strict.f k bt245.1).bind fun bt257 => (if bt257.2.2 = 0 then (if bt245.2.2.2 = 0 then ((path_options.f k bt257.1 bt257.2.1 (bt245.1.toList == ([] : List UInt8)) 0 bt245.2.1).bind fun bt261 => (some (bt261.1, bt261.2.1, bt261.2.2.1, bt261.2.2.2.1, bt261.2.2.2.2))) else (some ((⟨#[]⟩ : ByteArray), (⟨#[]⟩ : ByteArray), false, 0, bt245.2.2.2))) else (some ((⟨#[]⟩ : ByteArray), (⟨#[]⟩ : ByteArray), false, 0, bt257.2.2))))) else (some ((⟨#[]⟩ : ByteArray), (⟨#[]⟩ : ByteArray), false, 0, bt245.2.2.1)))) = some (r1, r2, r3, r4, r5) := h
 clear h
 replace H := Option.bind_eq_some_iff.mp H
 obtain ⟨⟨t245, t246, t247, t248⟩, A20, H⟩ := H
 replace H : (if t247 = 0 then (if t245.toList = ([] : List UInt8) then (if t248 = 0 then ((path_options.f k (⟨#[]⟩ : ByteArray) (⟨#[]⟩ : ByteArray) (t245.toList == ([] : List UInt8)) 0 t246).bind fun bt252 => (some (bt252.1, bt252.2.1, bt252.2.2.1, bt252.2.2.2.1, bt252.2.2.2.2))) else (some ((⟨#[]⟩ : ByteArray), (⟨#[]⟩ : ByteArray), false, 0, t248))) else ((addr_Strict.f k t245).bind fun bt257 => (if bt257.2.2 = 0 then (if t248 = 0 then ((path_options.f k bt257.1 bt257.2.1 (t245.toList == ([] : List UInt8)) 0 t246).bind fun bt261 => (some (bt261.1, bt261.2.1, bt261.2.2.1, bt261.2.2.2.1, bt261.2.2.2.2))) else (some ((⟨#[]⟩ : ByteArray), (⟨#[]⟩ : ByteArray), false, 0, t248))) else (some ((⟨#[]⟩ : ByteArray), (⟨#[]⟩ : ByteArray), false, 0, bt257.2.2))))) else (some ((⟨#[]⟩ : ByteArray), (⟨#[]⟩ : ByteArray), false, 0, t247))) = some (r1, r2, r3, r4, r5) := H
 have A2 := Aside0.mk A20
 clear A20
 by_cases c3 : t247 = 0
 ·rw [if_pos c3] at H
  have c3b0 : (t247 == 0) = true := beq_iff_eq.mpr c3
  have c3b1 : (t247 != 0) = false := bne_eq_false_iff_eq.mpr c3
  clear c3
  by_cases c4 : t245.toList = ([] : List UInt8)
  ·rw [if_pos c4] at H
   have c4b0 : (t245.toList == ([] : List UInt8)) = true := beq_iff_eq.mpr c4
   (try rw [c4b0] at H)
   have c4b1 : (t245.toList != ([] : List UInt8)) = false := bne_eq_false_iff_eq.mpr c4
   clear c4
   by_cases c5 : t248 = 0
   ·rw [if_pos c5] at H
    have c5b0 : (t248 == 0) = true := beq_iff_eq.mpr c5
    have c5b1 : (t248 != 0) = false := bne_eq_false_iff_eq.mpr c5
    clear c5
    replace H := Option.bind_eq_some_iff.mp H
    obtain ⟨⟨t252, t253, t254, t255, t256⟩, A60, H⟩ := H
    replace H : (some (t252, t253, t254, t255, t256)) = some (r1, r2, r3, r4, r5) := H
    have A6 := Aside0.mk A60
    clear A60
    simp only [Option.some.injEq, Prod.mk.injEq] at H
    obtain ⟨rfl, rfl, rfl, rfl, rfl⟩ := H
    go_enter Tryd.func49, Tryd.ntmps49
    go_wp2_with (first | ((with_reducible refine gate_dst (N := 2) rfl ?_); refine box_event ?hg (N := 2) ?hd (cs := #[.string (⟨#[]⟩ : ByteArray), .string (⟨#[]⟩ : ByteArray), .bool false, .int .i64 0]) (t := 77) ?hr ?_; (case hd => rfl); (case hg => rfl); (case hr => first | (go_simp; done) | (go_simp; rfl)); intro gb244 hg w7 hbox hb; have n0_ := Aside0.mk (below_step bw hb); have n1_ := Aside0.mk (hbox); have n2_ := Aside0.mk ((by rw [hg]; exact (below_size bw) : w.heap.size ≤ gb244)); have n3_ := Aside0.mk ((by rw [hg]; exact (below_size bw) : w.heap.size ≤ gb244)); clear HB; have HB := n0_; have BK244 := n1_; have GW244 := n2_; have GE244 := n3_; clear n0_ n1_ n2_ n3_; clear hb hbox hg) | ((with_reducible refine gate_callee (f := 100) rfl ?_); refine goesL_ (some 13) rfl rfl Tryd.func100 (by kernel_rfl) rfl #[.string a0] rfl am ?_; (with_reducible refine (path_split.calls (hG := by first | exact hG | exact Glob.below hG (by first | exact HB.out | (repeat (first | (with_reducible first | exact HB.out | apply below_alloc | apply pw_below_drewN | apply below_drew1 | refine below_set ?_ GE244.out | refine below_set ?_ GE251.out | refine below_set ?_ GE260.out) | exact HB.out))) | exact Glob.drawn hG (by repeat (first | exact Drawn0.refl _ | apply Drawn0.step))) a0 t245 t246 t247 t248 _ A2.out).mono ?_); rintro e w8 ⟨v249, rfl, ho0, hb⟩; refine ⟨_, rfl, ?_⟩; have n0_ := Aside0.mk (Kd.R_lower ho0 (below_size bwS)); have n1_ := Aside0.mk (blk_below (g := gb244) (o := .cells #[.string (⟨#[]⟩ : ByteArray), .string (⟨#[]⟩ : ByteArray), .bool false, .int .i64 0] 77 (0, 0)) bk hb); have n2_ := Aside0.mk (below_step bwS hb); clear BK244; clear HB; have HO250 := n0_; have BK244 := n1_; have HB := n2_; clear n0_ n1_ n2_; (try clear hb); (try clear hb2); (try clear hk); (try clear hi); (try clear ho0)) | ((with_reducible refine gate_dst (N := 8) rfl ?_); refine box_event ?hg (N := 8) ?hd (cs := #[.string (⟨#[]⟩ : ByteArray), .string (⟨#[]⟩ : ByteArray), .bool false, .int .i64 0]) (t := 77) ?hr ?_; (case hd => rfl); (case hg => rfl); (case hr => first | (go_simp; done) | (go_simp; rfl)); intro gb251 hg w9 hbox hb; have n0_ := Aside0.mk (Kd.R_below (by (with_reducible repeat (first | apply Kd.R_alloc | apply Kd.R_drewN | apply Kd.R_drew)); exact HO250.out) hb); have n1_ := Aside0.mk (blk_below (g := gb244) (o := .cells #[.string (⟨#[]⟩ : ByteArray), .string (⟨#[]⟩ : ByteArray), .bool false, .int .i64 0] 77 (0, 0)) bk hb); have n2_ := Aside0.mk (below_step bwS hb); have n3_ := Aside0.mk (hbox); have n4_ := Aside0.mk ((by rw [hg]; exact (below_size bwS) : w.heap.size ≤ gb251)); have n5_ := Aside0.mk ((by rw [hg]; exact (below_size bwS) : w.heap.size ≤ gb251)); have n6_ := Aside0.mk ((by rw [hg]; exact Nat.ne_of_lt (blk_lt (g := gb244) (o := .cells #[.string (⟨#[]⟩ : ByteArray), .string (⟨#[]⟩ : ByteArray), .bool false, .int .i64 0] 77 (0, 0)) bk) : gb244 ≠ gb251)); have n7_ := Aside0.mk ((by rw [hg]; exact Nat.ne_of_gt (blk_lt (g := gb244) (o := .cells #[.string (⟨#[]⟩ : ByteArray), .string (⟨#[]⟩ : ByteArray), .bool false, .int .i64 0] 77 (0, 0)) bk) : gb251 ≠ gb244)); clear HO250; clear BK244; clear HB; have HO250 := n0_; have BK244 := n1_; have HB := n2_; have BK251 := n3_; have GW251 := n4_; have GE251 := n5_; have NB244_251 := n6_; have NB251_244 := n7_; clear n0_ n1_ n2_ n3_ n4_ n5_ n6_ n7_; clear hb hbox hg; have hnb10 := NB251_244.out; have hnc10 := NB244_251.out; have hcz11_0 : w9.cell? ⟨gb251, 0, none⟩ = some (.string (⟨#[]⟩ : ByteArray)) := (blk_cell BK251.out 0).trans rfl; have hcz11_1 : w9.cell? ⟨gb251, 1, none⟩ = some (.string (⟨#[]⟩ : ByteArray)) := (blk_cell BK251.out 1).trans rfl; have hcz11_2 : w9.cell? ⟨gb251, 2, none⟩ = some (.bool false) := (blk_cell BK251.out 2).trans rfl; have hcz11_3 : w9.cell? ⟨gb251, 3, none⟩ = some (.int .i64 0) := (blk_cell BK251.out 3).trans rfl; have hfz11_0 := blk_frozen BK251.out 0; have hfz11_1 := blk_frozen BK251.out 1; have hfz11_2 := blk_frozen BK251.out 2; have hfz11_3 := blk_frozen BK251.out 3; obtain ⟨Ao12, co12, eo12⟩ := Kd.R_slice HO250.out; subst eo12) | ((with_reducible refine gate_callee (f := 102) rfl ?_); refine goesL_ (some 45) rfl rfl Tryd.func102 (by kernel_rfl) rfl #[.agg #[.string (⟨#[]⟩ : ByteArray), .string (⟨#[]⟩ : ByteArray), .bool true, .int .i64 0], .slice Ao12 t246.length co12] rfl am ?_; (with_reducible refine (path_options.calls (hG := by first | exact hG | exact Glob.below hG (by first | exact HB.out | (repeat (first | (with_reducible first | exact HB.out | apply below_alloc | apply pw_below_drewN | apply below_drew1 | refine below_set ?_ GE244.out | refine below_set ?_ GE251.out | refine below_set ?_ GE260.out) | exact HB.out))) | exact Glob.drawn hG (by repeat (first | exact Drawn0.refl _ | apply Drawn0.step))) k (⟨#[]⟩ : ByteArray) (⟨#[]⟩ : ByteArray) true 0 _ _ t246 t252 t253 t254 t255 t256 _ ?side1 ?side2 A6.out).mono ?_); (case side1 => refine (Kd.R_reads' (e := 9) (base := w.heap.size) (ok := fun k_ => True) (n := t246.length) (c := co12) ?_).2.2; exact (by (with_reducible repeat (first | apply Kd.R_alloc | apply Kd.R_drewN | apply Kd.R_drew)); exact (Kd.R_mono (Kd.R_far (p := ⟨gb251, 3, none⟩) (Kd.R_far (p := ⟨gb251, 2, none⟩) (Kd.R_far (p := ⟨gb251, 1, none⟩) (Kd.R_far (p := ⟨gb251, 0, none⟩) (Kd.R_types HO250.out BK251.out (by decide)) (fun _ hk => hk.2) (.string (⟨#[]⟩ : ByteArray))) (fun _ hk => hk.2) (.string (⟨#[]⟩ : ByteArray))) (fun _ hk => hk.2) (.bool true)) (fun _ hk => hk.2) (.int .i64 0)) (fun _ h_ => h_.1)))); (case side2 => exact (Kd.R_reads' HO250.out).2.1); rintro e w13 ⟨rfl, hb⟩; refine ⟨_, rfl, ?_⟩; have n0_ := Aside0.mk (Kd.R_below (by (with_reducible repeat (first | apply Kd.R_alloc | apply Kd.R_drewN | apply Kd.R_drew)); exact (Kd.R_mono (Kd.R_far (p := ⟨gb251, 3, none⟩) (Kd.R_far (p := ⟨gb251, 2, none⟩) (Kd.R_far (p := ⟨gb251, 1, none⟩) (Kd.R_far (p := ⟨gb251, 0, none⟩) (Kd.R_types HO250.out BK251.out (by decide)) (fun _ hk => hk.2) (.string (⟨#[]⟩ : ByteArray))) (fun _ hk => hk.2) (.string (⟨#[]⟩ : ByteArray))) (fun _ hk => hk.2) (.bool true)) (fun _ hk => hk.2) (.int .i64 0)) (fun _ h_ => h_.1))) hb); have n1_ := Aside0.mk (blk_below (g := gb244) (o := .cells #[.string (⟨#[]⟩ : ByteArray), .string (⟨#[]⟩ : ByteArray), .bool false, .int .i64 0] 77 (0, 0)) (by (with_reducible repeat (first | refine blk_drewN ?_ _ | refine blk_drew ?_ | refine blk_alloc ?_ _)); refine blk_far ?_ NB244_251.out _; (with_reducible repeat (first | refine blk_drewN ?_ _ | refine blk_drew ?_ | refine blk_alloc ?_ _)); refine blk_far ?_ NB244_251.out _; (with_reducible repeat (first | refine blk_drewN ?_ _ | refine blk_drew ?_ | refine blk_alloc ?_ _)); refine blk_far ?_ NB244_251.out _; (with_reducible repeat (first | refine blk_drewN ?_ _ | refine blk_drew ?_ | refine blk_alloc ?_ _)); refine blk_far ?_ NB244_251.out _; (with_reducible repeat (first | refine blk_drewN ?_ _ | refine blk_drew ?_ | refine blk_alloc ?_ _)); exact BK244.out) hb); have n2_ := Aside0.mk (blk_below (g := gb251) (o := .cells #[.string (⟨#[]⟩ : ByteArray), .string (⟨#[]⟩ : ByteArray), .bool true, .int .i64 0] 77 (0, 0)) (by (with_reducible repeat (first | refine blk_drewN ?_ _ | refine blk_drew ?_ | refine blk_alloc ?_ _)); refine blk_put (cs := #[.string (⟨#[]⟩ : ByteArray), .string (⟨#[]⟩ : ByteArray), .bool true, .int .i64 0]) ?_ 3 _ rfl; (with_reducible repeat (first | refine blk_drewN ?_ _ | refine blk_drew ?_ | refine blk_alloc ?_ _)); refine blk_put (cs := #[.string (⟨#[]⟩ : ByteArray), .string (⟨#[]⟩ : ByteArray), .bool false, .int .i64 0]) ?_ 2 _ rfl; (with_reducible repeat (first | refine blk_drewN ?_ _ | refine blk_drew ?_ | refine blk_alloc ?_ _)); refine blk_put (cs := #[.string (⟨#[]⟩ : ByteArray), .string (⟨#[]⟩ : ByteArray), .bool false, .int .i64 0]) ?_ 1 _ rfl; (with_reducible repeat (first | refine blk_drewN ?_ _ | refine blk_drew ?_ | refine blk_alloc ?_ _)); refine blk_put (cs := #[.string (⟨#[]⟩ : ByteArray), .string (⟨#[]⟩ : ByteArray), .bool false, .int .i64 0]) ?_ 0 _ rfl; (with_reducible repeat (first | refine blk_drewN ?_ _ | refine blk_drew ?_ | refine blk_alloc ?_ _)); exact BK251.out) hb); have n3_ := Aside0.mk (below_step (by repeat (first | (with_reducible first | exact HB.out | apply below_alloc | apply pw_below_drewN | apply below_drew1 | refine below_set ?_ GE244.out | refine below_set ?_ GE251.out) | exact HB.out)) hb); clear HO250; clear BK244; clear BK251; clear HB; have HO250 := n0_; have BK244 := n1_; have BK251 := n2_; have HB := n3_; clear n0_ n1_ n2_ n3_; (try clear hb); (try clear hb2); (try clear hk); (try clear hi); have hcz14_0 : w13.cell? ⟨gb244, 0, none⟩ = some (.string (⟨#[]⟩ : ByteArray)) := (blk_cell BK244.out 0).trans rfl; have hcz14_1 : w13.cell? ⟨gb244, 1, none⟩ = some (.string (⟨#[]⟩ : ByteArray)) := (blk_cell BK244.out 1).trans rfl; have hcz14_2 : w13.cell? ⟨gb244, 2, none⟩ = some (.bool false) := (blk_cell BK244.out 2).trans rfl; have hcz14_3 : w13.cell? ⟨gb244, 3, none⟩ = some (.int .i64 0) := (blk_cell BK244.out 3).trans rfl; have hfz14_0 := blk_frozen BK244.out 0; have hfz14_1 := blk_frozen BK244.out 1; have hfz14_2 := blk_frozen BK244.out 2; have hfz14_3 := blk_frozen BK244.out 3))
    refine bodyPost_ret (results_ct rfl _ _ gb244 77 #[.string t252, .string t253, .bool t254, .int .i64 t255] (0, 0) _ rfl (by (with_reducible repeat (first | refine blk_drewN ?_ _ | refine blk_drew ?_ | refine blk_alloc ?_ _)); refine blk_put (cs := #[.string t252, .string t253, .bool t254, .int .i64 0]) ?_ 3 _ rfl; (with_reducible repeat (first | refine blk_drewN ?_ _ | refine blk_drew ?_ | refine blk_alloc ?_ _)); refine blk_put (cs := #[.string t252, .string t253, .bool false, .int .i64 0]) ?_ 2 _ rfl; (with_reducible repeat (first | refine blk_drewN ?_ _ | refine blk_drew ?_ | refine blk_alloc ?_ _)); refine blk_put (cs := #[.string t252, .string (⟨#[]⟩ : ByteArray), .bool false, .int .i64 0]) ?_ 1 _ rfl; (with_reducible repeat (first | refine blk_drewN ?_ _ | refine blk_drew ?_ | refine blk_alloc ?_ _)); refine blk_put (cs := #[.string (⟨#[]⟩ : ByteArray), .string (⟨#[]⟩ : ByteArray), .bool false, .int .i64 0]) ?_ 0 _ rfl; (with_reducible repeat (first | refine blk_drewN ?_ _ | refine blk_drew ?_ | refine blk_alloc ?_ _)); exact BK244.out) Tryd.underlying77 rfl (by kernel_rfl)) rfl ?_
    exact ⟨by first | rfl | (simp [errW_none, errW_some] <;> rfl) | (simp [*, errW_none, errW_some] <;> rfl), by repeat (first | (with_reducible first | exact HB.out | apply below_alloc | apply pw_below_drewN | apply below_drew1 | refine below_set ?_ GE244.out | refine below_set ?_ GE251.out) | exact HB.out)⟩
   ·rw [if_neg c5] at H
    have c5b0 : (t248 == 0) = false := beq_eq_false_iff_ne.mpr c5
    have c5b1 : (t248 != 0) = true := bne_iff_ne.mpr c5
    simp only [Option.some.injEq, Prod.mk.injEq] at H
    obtain ⟨rfl, rfl, rfl, rfl, rfl⟩ := H
    go_enter Tryd.func49, Tryd.ntmps49
    go_wp2_with (first | ((with_reducible refine gate_dst (N := 2) rfl ?_); refine box_event ?hg (N := 2) ?hd (cs := #[.string (⟨#[]⟩ : ByteArray), .string (⟨#[]⟩ : ByteArray), .bool false, .int .i64 0]) (t := 77) ?hr ?_; (case hd => rfl); (case hg => rfl); (case hr => first | (go_simp; done) | (go_simp; rfl)); intro gb244 hg w15 hbox hb; have n0_ := Aside0.mk (below_step bw hb); have n1_ := Aside0.mk (hbox); have n2_ := Aside0.mk ((by rw [hg]; exact (below_size bw) : w.heap.size ≤ gb244)); have n3_ := Aside0.mk ((by rw [hg]; exact (below_size bw) : w.heap.size ≤ gb244)); clear HB; have HB := n0_; have BK244 := n1_; have GW244 := n2_; have GE244 := n3_; clear n0_ n1_ n2_ n3_; clear hb hbox hg) | ((with_reducible refine gate_callee (f := 100) rfl ?_); refine goesL_ (some 13) rfl rfl Tryd.func100 (by kernel_rfl) rfl #[.string a0] rfl am ?_; (with_reducible refine (path_split.calls (hG := by first | exact hG | exact Glob.below hG (by first | exact HB.out | (repeat (first | (with_reducible first | exact HB.out | apply below_alloc | apply pw_below_drewN | apply below_drew1 | refine below_set ?_ GE244.out | refine below_set ?_ GE251.out | refine below_set ?_ GE260.out) | exact HB.out))) | exact Glob.drawn hG (by repeat (first | exact Drawn0.refl _ | apply Drawn0.step))) a0 t245 t246 t247 t248 _ A2.out).mono ?_); rintro e w16 ⟨v249, rfl, ho0, hb⟩; refine ⟨_, rfl, ?_⟩; have n0_ := Aside0.mk (Kd.R_lower ho0 (below_size bwS)); have n1_ := Aside0.mk (blk_below (g := gb244) (o := .cells #[.string (⟨#[]⟩ : ByteArray), .string (⟨#[]⟩ : ByteArray), .bool false, .int .i64 0] 77 (0, 0)) bk hb); have n2_ := Aside0.mk (below_step bwS hb); clear BK244; clear HB; have HO250 := n0_; have BK244 := n1_; have HB := n2_; clear n0_ n1_ n2_; (try clear hb); (try clear hb2); (try clear hk); (try clear hi); (try clear ho0)) | ((with_reducible refine gate_dst (N := 8) rfl ?_); refine box_event ?hg (N := 8) ?hd (cs := #[.string (⟨#[]⟩ : ByteArray), .string (⟨#[]⟩ : ByteArray), .bool false, .int .i64 0]) (t := 77) ?hr ?_; (case hd => rfl); (case hg => rfl); (case hr => first | (go_simp; done) | (go_simp; rfl)); intro gb251 hg w17 hbox hb; have n0_ := Aside0.mk (Kd.R_below (by (with_reducible repeat (first | apply Kd.R_alloc | apply Kd.R_drewN | apply Kd.R_drew)); exact HO250.out) hb); have n1_ := Aside0.mk (blk_below (g := gb244) (o := .cells #[.string (⟨#[]⟩ : ByteArray), .string (⟨#[]⟩ : ByteArray), .bool false, .int .i64 0] 77 (0, 0)) bk hb); have n2_ := Aside0.mk (below_step bwS hb); have n3_ := Aside0.mk (hbox); have n4_ := Aside0.mk ((by rw [hg]; exact (below_size bwS) : w.heap.size ≤ gb251)); have n5_ := Aside0.mk ((by rw [hg]; exact (below_size bwS) : w.heap.size ≤ gb251)); have n6_ := Aside0.mk ((by rw [hg]; exact Nat.ne_of_lt (blk_lt (g := gb244) (o := .cells #[.string (⟨#[]⟩ : ByteArray), .string (⟨#[]⟩ : ByteArray), .bool false, .int .i64 0] 77 (0, 0)) bk) : gb244 ≠ gb251)); have n7_ := Aside0.mk ((by rw [hg]; exact Nat.ne_of_gt (blk_lt (g := gb244) (o := .cells #[.string (⟨#[]⟩ : ByteArray), .string (⟨#[]⟩ : ByteArray), .bool false, .int .i64 0] 77 (0, 0)) bk) : gb251 ≠ gb244)); clear HO250; clear BK244; clear HB; have HO250 := n0_; have BK244 := n1_; have HB := n2_; have BK251 := n3_; have GW251 := n4_; have GE251 := n5_; have NB244_251 := n6_; have NB251_244 := n7_; clear n0_ n1_ n2_ n3_ n4_ n5_ n6_ n7_; clear hb hbox hg; have hnb18 := NB251_244.out; have hnc18 := NB244_251.out; have hcz19_0 : w17.cell? ⟨gb251, 0, none⟩ = some (.string (⟨#[]⟩ : ByteArray)) := (blk_cell BK251.out 0).trans rfl; have hcz19_1 : w17.cell? ⟨gb251, 1, none⟩ = some (.string (⟨#[]⟩ : ByteArray)) := (blk_cell BK251.out 1).trans rfl; have hcz19_2 : w17.cell? ⟨gb251, 2, none⟩ = some (.bool false) := (blk_cell BK251.out 2).trans rfl; have hcz19_3 : w17.cell? ⟨gb251, 3, none⟩ = some (.int .i64 0) := (blk_cell BK251.out 3).trans rfl; have hfz19_0 := blk_frozen BK251.out 0; have hfz19_1 := blk_frozen BK251.out 1; have hfz19_2 := blk_frozen BK251.out 2; have hfz19_3 := blk_frozen BK251.out 3; have hcz20_0 : w17.cell? ⟨gb244, 0, none⟩ = some (.string (⟨#[]⟩ : ByteArray)) := (blk_cell BK244.out 0).trans rfl; have hcz20_1 : w17.cell? ⟨gb244, 1, none⟩ = some (.string (⟨#[]⟩ : ByteArray)) := (blk_cell BK244.out 1).trans rfl; have hcz20_2 : w17.cell? ⟨gb244, 2, none⟩ = some (.bool false) := (blk_cell BK244.out 2).trans rfl; have hcz20_3 : w17.cell? ⟨gb244, 3, none⟩ = some (.int .i64 0) := (blk_cell BK244.out 3).trans rfl; have hfz20_0 := blk_frozen BK244.out 0; have hfz20_1 := blk_frozen BK244.out 1; have hfz20_2 := blk_frozen BK244.out 2; have hfz20_3 := blk_frozen BK244.out 3))
    refine bodyPost_ret (results_ct rfl _ _ gb244 77 #[.string (⟨#[]⟩ : ByteArray), .string (⟨#[]⟩ : ByteArray), .bool false, .int .i64 0] (0, 0) _ rfl (by (with_reducible repeat (first | refine blk_drewN ?_ _ | refine blk_drew ?_ | refine blk_alloc ?_ _)); refine blk_put (cs := #[.string (⟨#[]⟩ : ByteArray), .string (⟨#[]⟩ : ByteArray), .bool false, .int .i64 0]) ?_ 3 _ rfl; (with_reducible repeat (first | refine blk_drewN ?_ _ | refine blk_drew ?_ | refine blk_alloc ?_ _)); refine blk_put (cs := #[.string (⟨#[]⟩ : ByteArray), .string (⟨#[]⟩ : ByteArray), .bool false, .int .i64 0]) ?_ 2 _ rfl; (with_reducible repeat (first | refine blk_drewN ?_ _ | refine blk_drew ?_ | refine blk_alloc ?_ _)); refine blk_put (cs := #[.string (⟨#[]⟩ : ByteArray), .string (⟨#[]⟩ : ByteArray), .bool false, .int .i64 0]) ?_ 1 _ rfl; (with_reducible repeat (first | refine blk_drewN ?_ _ | refine blk_drew ?_ | refine blk_alloc ?_ _)); refine blk_put (cs := #[.string (⟨#[]⟩ : ByteArray), .string (⟨#[]⟩ : ByteArray), .bool false, .int .i64 0]) ?_ 0 _ rfl; (with_reducible repeat (first | refine blk_drewN ?_ _ | refine blk_drew ?_ | refine blk_alloc ?_ _)); refine blk_far ?_ NB244_251.out _; (with_reducible repeat (first | refine blk_drewN ?_ _ | refine blk_drew ?_ | refine blk_alloc ?_ _)); refine blk_far ?_ NB244_251.out _; (with_reducible repeat (first | refine blk_drewN ?_ _ | refine blk_drew ?_ | refine blk_alloc ?_ _)); refine blk_far ?_ NB244_251.out _; (with_reducible repeat (first | refine blk_drewN ?_ _ | refine blk_drew ?_ | refine blk_alloc ?_ _)); refine blk_far ?_ NB244_251.out _; (with_reducible repeat (first | refine blk_drewN ?_ _ | refine blk_drew ?_ | refine blk_alloc ?_ _)); exact BK244.out) Tryd.underlying77 rfl (by kernel_rfl)) rfl ?_
    exact ⟨by first | rfl | (simp [errW_none, errW_some] <;> rfl) | (simp [*, errW_none, errW_some] <;> rfl), by repeat (first | (with_reducible first | exact HB.out | apply below_alloc | apply pw_below_drewN | apply below_drew1 | refine below_set ?_ GE244.out | refine below_set ?_ GE251.out) | exact HB.out)⟩
  ·rw [if_neg c4] at H
   have c4b0 : (t245.toList == ([] : List UInt8)) = false := beq_eq_false_iff_ne.mpr c4
   (try rw [c4b0] at H)
   have c4b1 : (t245.toList != ([] : List UInt8)) = true := bne_iff_ne.mpr c4
   replace H := Option.bind_eq_some_iff.mp H
   obtain ⟨⟨t257, t258, t259⟩, A210, H⟩ := H
   replace H : (if t259 = 0 then (if t248 = 0 then ((path_options.f k t257 t258 false 0 t246).bind fun bt261 => (some (bt261.1, bt261.2.1, bt261.2.2.1, bt261.2.2.2.1, bt261.2.2.2.2))) else (some ((⟨#[]⟩ : ByteArray), (⟨#[]⟩ : ByteArray), false, 0, t248))) else (some ((⟨#[]⟩ : ByteArray), (⟨#[]⟩ : ByteArray), false, 0, t259))) = some (r1, r2, r3, r4, r5) := H
   have A21 := Aside0.mk A210
   clear A210
   by_cases c22 : t259 = 0
   ·rw [if_pos c22] at H
    have c22b0 : (t259 == 0) = true := beq_iff_eq.mpr c22
    have c22b1 : (t259 != 0) = false := bne_eq_false_iff_eq.mpr c22
    clear c22
    by_cases c23 : t248 = 0
    ·rw [if_pos c23] at H
     have c23b0 : (t248 == 0) = true := beq_iff_eq.mpr c23
     have c23b1 : (t248 != 0) = false := bne_eq_false_iff_eq.mpr c23
     clear c23
     replace H := Option.bind_eq_some_iff.mp H
     obtain ⟨⟨t261, t262, t263, t264, t265⟩, A240, H⟩ := H
     replace H : (some (t261, t262, t263, t264, t265)) = some (r1, r2, r3, r4, r5) := H
     have A24 := Aside0.mk A240
     clear A240
     simp only [Option.some.injEq, Prod.mk.injEq] at H
     obtain ⟨rfl, rfl, rfl, rfl, rfl⟩ := H
     go_enter Tryd.func49, Tryd.ntmps49
     go_wp2_with (first | ((with_reducible refine gate_dst (N := 2) rfl ?_); refine box_event ?hg (N := 2) ?hd (cs := #[.string (⟨#[]⟩ : ByteArray), .string (⟨#[]⟩ : ByteArray), .bool false, .int .i64 0]) (t := 77) ?hr ?_; (case hd => rfl); (case hg => rfl); (case hr => first | (go_simp; done) | (go_simp; rfl)); intro gb244 hg w25 hbox hb; have n0_ := Aside0.mk (below_step bw hb); have n1_ := Aside0.mk (hbox); have n2_ := Aside0.mk ((by rw [hg]; exact (below_size bw) : w.heap.size ≤ gb244)); have n3_ := Aside0.mk ((by rw [hg]; exact (below_size bw) : w.heap.size ≤ gb244)); clear HB; have HB := n0_; have BK244 := n1_; have GW244 := n2_; have GE244 := n3_; clear n0_ n1_ n2_ n3_; clear hb hbox hg) | ((with_reducible refine gate_callee (f := 100) rfl ?_); refine goesL_ (some 13) rfl rfl Tryd.func100 (by kernel_rfl) rfl #[.string a0] rfl am ?_; (with_reducible refine (path_split.calls (hG := by first | exact hG | exact Glob.below hG (by first | exact HB.out | (repeat (first | (with_reducible first | exact HB.out | apply below_alloc | apply pw_below_drewN | apply below_drew1 | refine below_set ?_ GE244.out | refine below_set ?_ GE251.out | refine below_set ?_ GE260.out) | exact HB.out))) | exact Glob.drawn hG (by repeat (first | exact Drawn0.refl _ | apply Drawn0.step))) a0 t245 t246 t247 t248 _ A2.out).mono ?_); rintro e w26 ⟨v249, rfl, ho0, hb⟩; refine ⟨_, rfl, ?_⟩; have n0_ := Aside0.mk (Kd.R_lower ho0 (below_size bwS)); have n1_ := Aside0.mk (blk_below (g := gb244) (o := .cells #[.string (⟨#[]⟩ : ByteArray), .string (⟨#[]⟩ : ByteArray), .bool false, .int .i64 0] 77 (0, 0)) bk hb); have n2_ := Aside0.mk (below_step bwS hb); clear BK244; clear HB; have HO250 := n0_; have BK244 := n1_; have HB := n2_; clear n0_ n1_ n2_; (try clear hb); (try clear hb2); (try clear hk); (try clear hi); (try clear ho0)) | ((with_reducible refine gate_dst (N := 8) rfl ?_); refine box_event ?hg (N := 8) ?hd (cs := #[.string (⟨#[]⟩ : ByteArray), .string (⟨#[]⟩ : ByteArray), .bool false, .int .i64 0]) (t := 77) ?hr ?_; (case hd => rfl); (case hg => rfl); (case hr => first | (go_simp; done) | (go_simp; rfl)); intro gb251 hg w27 hbox hb; have n0_ := Aside0.mk (Kd.R_below (by (with_reducible repeat (first | apply Kd.R_alloc | apply Kd.R_drewN | apply Kd.R_drew)); exact HO250.out) hb); have n1_ := Aside0.mk (blk_below (g := gb244) (o := .cells #[.string (⟨#[]⟩ : ByteArray), .string (⟨#[]⟩ : ByteArray), .bool false, .int .i64 0] 77 (0, 0)) bk hb); have n2_ := Aside0.mk (below_step bwS hb); have n3_ := Aside0.mk (hbox); have n4_ := Aside0.mk ((by rw [hg]; exact (below_size bwS) : w.heap.size ≤ gb251)); have n5_ := Aside0.mk ((by rw [hg]; exact (below_size bwS) : w.heap.size ≤ gb251)); have n6_ := Aside0.mk ((by rw [hg]; exact Nat.ne_of_lt (blk_lt (g := gb244) (o := .cells #[.string (⟨#[]⟩ : ByteArray), .string (⟨#[]⟩ : ByteArray), .bool false, .int .i64 0] 77 (0, 0)) bk) : gb244 ≠ gb251)); have n7_ := Aside0.mk ((by rw [hg]; exact Nat.ne_of_gt (blk_lt (g := gb244) (o := .cells #[.string (⟨#[]⟩ : ByteArray), .string (⟨#[]⟩ : ByteArray), .bool false, .int .i64 0] 77 (0, 0)) bk) : gb251 ≠ gb244)); clear HO250; clear BK244; clear HB; have HO250 := n0_; have BK244 := n1_; have HB := n2_; have BK251 := n3_; have GW251 := n4_; have GE251 := n5_; have NB244_251 := n6_; have NB251_244 := n7_; clear n0_ n1_ n2_ n3_ n4_ n5_ n6_ n7_; clear hb hbox hg; have hnb28 := NB251_244.out; have hnc28 := NB244_251.out; have hcz29_0 : w27.cell? ⟨gb251, 0, none⟩ = some (.string (⟨#[]⟩ : ByteArray)) := (blk_cell BK251.out 0).trans rfl; have hcz29_1 : w27.cell? ⟨gb251, 1, none⟩ = some (.string (⟨#[]⟩ : ByteArray)) := (blk_cell BK251.out 1).trans rfl; have hcz29_2 : w27.cell? ⟨gb251, 2, none⟩ = some (.bool false) := (blk_cell BK251.out 2).trans rfl; have hcz29_3 : w27.cell? ⟨gb251, 3, none⟩ = some (.int .i64 0) := (blk_cell BK251.out 3).trans rfl; have hfz29_0 := blk_frozen BK251.out 0; have hfz29_1 := blk_frozen BK251.out 1; have hfz29_2 := blk_frozen BK251.out 2; have hfz29_3 := blk_frozen BK251.out 3) | ((with_reducible refine gate_callee (f := 101) rfl ?_); refine goesL_ (some 30) rfl rfl Tryd.func101 (by kernel_rfl) rfl #[.string t245] rfl am ?_; (with_reducible refine (addr_Strict.calls k t245 t257 t258 t259 _ A21.out).mono ?_); rintro e w30 ⟨rfl, hb⟩; refine ⟨_, rfl, ?_⟩; have n0_ := Aside0.mk (Kd.R_below (by (with_reducible repeat (first | apply Kd.R_alloc | apply Kd.R_drewN | apply Kd.R_drew)); exact (Kd.R_mono (Kd.R_far (p := ⟨gb251, 3, none⟩) (Kd.R_far (p := ⟨gb251, 2, none⟩) (Kd.R_far (p := ⟨gb251, 1, none⟩) (Kd.R_far (p := ⟨gb251, 0, none⟩) (Kd.R_types HO250.out BK251.out (by decide)) (fun _ hk => hk.2) (.string (⟨#[]⟩ : ByteArray))) (fun _ hk => hk.2) (.string (⟨#[]⟩ : ByteArray))) (fun _ hk => hk.2) (.bool false)) (fun _ hk => hk.2) (.int .i64 0)) (fun _ h_ => h_.1))) hb); have n1_ := Aside0.mk (blk_below (g := gb244) (o := .cells #[.string (⟨#[]⟩ : ByteArray), .string (⟨#[]⟩ : ByteArray), .bool false, .int .i64 0] 77 (0, 0)) (by (with_reducible repeat (first | refine blk_drewN ?_ _ | refine blk_drew ?_ | refine blk_alloc ?_ _)); refine blk_far ?_ NB244_251.out _; (with_reducible repeat (first | refine blk_drewN ?_ _ | refine blk_drew ?_ | refine blk_alloc ?_ _)); refine blk_far ?_ NB244_251.out _; (with_reducible repeat (first | refine blk_drewN ?_ _ | refine blk_drew ?_ | refine blk_alloc ?_ _)); refine blk_far ?_ NB244_251.out _; (with_reducible repeat (first | refine blk_drewN ?_ _ | refine blk_drew ?_ | refine blk_alloc ?_ _)); refine blk_far ?_ NB244_251.out _; (with_reducible repeat (first | refine blk_drewN ?_ _ | refine blk_drew ?_ | refine blk_alloc ?_ _)); exact BK244.out) hb); have n2_ := Aside0.mk (blk_below (g := gb251) (o := .cells #[.string (⟨#[]⟩ : ByteArray), .string (⟨#[]⟩ : ByteArray), .bool false, .int .i64 0] 77 (0, 0)) (by (with_reducible repeat (first | refine blk_drewN ?_ _ | refine blk_drew ?_ | refine blk_alloc ?_ _)); refine blk_put (cs := #[.string (⟨#[]⟩ : ByteArray), .string (⟨#[]⟩ : ByteArray), .bool false, .int .i64 0]) ?_ 3 _ rfl; (with_reducible repeat (first | refine blk_drewN ?_ _ | refine blk_drew ?_ | refine blk_alloc ?_ _)); refine blk_put (cs := #[.string (⟨#[]⟩ : ByteArray), .string (⟨#[]⟩ : ByteArray), .bool false, .int .i64 0]) ?_ 2 _ rfl; (with_reducible repeat (first | refine blk_drewN ?_ _ | refine blk_drew ?_ | refine blk_alloc ?_ _)); refine blk_put (cs := #[.string (⟨#[]⟩ : ByteArray), .string (⟨#[]⟩ : ByteArray), .bool false, .int .i64 0]) ?_ 1 _ rfl; (with_reducible repeat (first | refine blk_drewN ?_ _ | refine blk_drew ?_ | refine blk_alloc ?_ _)); refine blk_put (cs := #[.string (⟨#[]⟩ : ByteArray), .string (⟨#[]⟩ : ByteArray), .bool false, .int .i64 0]) ?_ 0 _ rfl; (with_reducible repeat (first | refine blk_drewN ?_ _ | refine blk_drew ?_ | refine blk_alloc ?_ _)); exact BK251.out) hb); have n3_ := Aside0.mk (below_step (by repeat (first | (with_reducible first | exact HB.out | apply below_alloc | apply pw_below_drewN | apply below_drew1 | refine below_set ?_ GE244.out | refine below_set ?_ GE251.out) | exact HB.out)) hb); clear HO250; clear BK244; clear BK251; clear HB; have HO250 := n0_; have BK244 := n1_; have BK251 := n2_; have HB := n3_; clear n0_ n1_ n2_ n3_; (try clear hb); (try clear hb2); (try clear hk); (try clear hi)) | ((with_reducible refine gate_dst (N := 9) rfl ?_); refine box_event ?hg (N := 9) ?hd (cs := #[.string (⟨#[]⟩ : ByteArray), .string (⟨#[]⟩ : ByteArray)]) (t := 51) ?hr ?_; (case hd => rfl); (case hg => rfl); (case hr => first | (go_simp; done) | (go_simp; rfl)); intro gb260 hg w31 hbox hb; have n0_ := Aside0.mk (Kd.R_below (by (with_reducible repeat (first | apply Kd.R_alloc | apply Kd.R_drewN | apply Kd.R_drew)); exact HO250.out) hb); have n1_ := Aside0.mk (blk_below (g := gb244) (o := .cells #[.string (⟨#[]⟩ : ByteArray), .string (⟨#[]⟩ : ByteArray), .bool false, .int .i64 0] 77 (0, 0)) bk hb); have n2_ := Aside0.mk (blk_below (g := gb251) (o := .cells #[.string (⟨#[]⟩ : ByteArray), .string (⟨#[]⟩ : ByteArray), .bool false, .int .i64 0] 77 (0, 0)) bk hb); have n3_ := Aside0.mk (below_step (by repeat (first | (with_reducible first | exact HB.out | apply below_alloc | apply pw_below_drewN | apply below_drew1 | refine below_set ?_ GE244.out | refine below_set ?_ GE251.out) | exact HB.out)) hb); have n4_ := Aside0.mk (hbox); have n5_ := Aside0.mk ((by rw [hg]; exact (below_size (by repeat (first | (with_reducible first | exact HB.out | apply below_alloc | apply pw_below_drewN | apply below_drew1 | refine below_set ?_ GE244.out | refine below_set ?_ GE251.out) | exact HB.out))) : w.heap.size ≤ gb260)); have n6_ := Aside0.mk ((by rw [hg]; exact (below_size (by repeat (first | (with_reducible first | exact HB.out | apply below_alloc | apply pw_below_drewN | apply below_drew1 | refine below_set ?_ GE244.out | refine below_set ?_ GE251.out) | exact HB.out))) : w.heap.size ≤ gb260)); have n7_ := Aside0.mk ((by rw [hg]; exact Nat.ne_of_lt (blk_lt (g := gb244) (o := .cells #[.string (⟨#[]⟩ : ByteArray), .string (⟨#[]⟩ : ByteArray), .bool false, .int .i64 0] 77 (0, 0)) bk) : gb244 ≠ gb260)); have n8_ := Aside0.mk ((by rw [hg]; exact Nat.ne_of_gt (blk_lt (g := gb244) (o := .cells #[.string (⟨#[]⟩ : ByteArray), .string (⟨#[]⟩ : ByteArray), .bool false, .int .i64 0] 77 (0, 0)) bk) : gb260 ≠ gb244)); have n9_ := Aside0.mk ((by rw [hg]; exact Nat.ne_of_lt (blk_lt (g := gb251) (o := .cells #[.string (⟨#[]⟩ : ByteArray), .string (⟨#[]⟩ : ByteArray), .bool false, .int .i64 0] 77 (0, 0)) bk) : gb251 ≠ gb260)); have n10_ := Aside0.mk ((by rw [hg]; exact Nat.ne_of_gt (blk_lt (g := gb251) (o := .cells #[.string (⟨#[]⟩ : ByteArray), .string (⟨#[]⟩ : ByteArray), .bool false, .int .i64 0] 77 (0, 0)) bk) : gb260 ≠ gb251)); clear HO250; clear BK244; clear BK251; clear HB; have HO250 := n0_; have BK244 := n1_; have BK251 := n2_; have HB := n3_; have BK260 := n4_; have GW260 := n5_; have GE260 := n6_; have NB244_260 := n7_; have NB260_244 := n8_; have NB251_260 := n9_; have NB260_251 := n10_; clear n0_ n1_ n2_ n3_ n4_ n5_ n6_ n7_ n8_ n9_ n10_; clear hb hbox hg; have hnb32 := NB260_244.out; have hnc32 := NB244_260.out; have hnb33 := NB260_251.out; have hnc33 := NB251_260.out; have hcz34_0 : w31.cell? ⟨gb260, 0, none⟩ = some (.string (⟨#[]⟩ : ByteArray)) := (blk_cell BK260.out 0).trans rfl; have hcz34_1 : w31.cell? ⟨gb260, 1, none⟩ = some (.string (⟨#[]⟩ : ByteArray)) := (blk_cell BK260.out 1).trans rfl; have hfz34_0 := blk_frozen BK260.out 0; have hfz34_1 := blk_frozen BK260.out 1; have hcz35_0 : w31.cell? ⟨gb251, 0, none⟩ = some (.string (⟨#[]⟩ : ByteArray)) := (blk_cell BK251.out 0).trans rfl; have hcz35_1 : w31.cell? ⟨gb251, 1, none⟩ = some (.string (⟨#[]⟩ : ByteArray)) := (blk_cell BK251.out 1).trans rfl; have hcz35_2 : w31.cell? ⟨gb251, 2, none⟩ = some (.bool false) := (blk_cell BK251.out 2).trans rfl; have hcz35_3 : w31.cell? ⟨gb251, 3, none⟩ = some (.int .i64 0) := (blk_cell BK251.out 3).trans rfl; have hfz35_0 := blk_frozen BK251.out 0; have hfz35_1 := blk_frozen BK251.out 1; have hfz35_2 := blk_frozen BK251.out 2; have hfz35_3 := blk_frozen BK251.out 3; obtain ⟨Ao36, co36, eo36⟩ := Kd.R_slice HO250.out; subst eo36) | ((with_reducible refine gate_callee (f := 102) rfl ?_); refine goesL_ (some 45) rfl rfl Tryd.func102 (by kernel_rfl) rfl #[.agg #[.string t257, .string t258, .bool false, .int .i64 0], .slice Ao36 t246.length co36] rfl am ?_; (with_reducible refine (path_options.calls (hG := by first | exact hG | exact Glob.below hG (by first | exact HB.out | (repeat (first | (with_reducible first | exact HB.out | apply below_alloc | apply pw_below_drewN | apply below_drew1 | refine below_set ?_ GE244.out | refine below_set ?_ GE251.out | refine below_set ?_ GE260.out) | exact HB.out))) | exact Glob.drawn hG (by repeat (first | exact Drawn0.refl _ | apply Drawn0.step))) k t257 t258 false 0 _ _ t246 t261 t262 t263 t264 t265 _ ?side1 ?side2 A24.out).mono ?_); (case side1 => refine (Kd.R_reads' (e := 9) (base := w.heap.size) (ok := fun k_ => True) (n := t246.length) (c := co36) ?_).2.2; exact (by (with_reducible repeat (first | apply Kd.R_alloc | apply Kd.R_drewN | apply Kd.R_drew)); exact (Kd.R_mono (Kd.R_mono (Kd.R_far (p := ⟨gb251, 1, none⟩) (Kd.R_far (p := ⟨gb251, 0, none⟩) (Kd.R_far (p := ⟨gb260, 1, none⟩) (Kd.R_far (p := ⟨gb260, 0, none⟩) (Kd.R_types (Kd.R_types HO250.out BK260.out (by decide)) BK251.out (by decide)) (fun _ hk => hk.1.2) (.string t257)) (fun _ hk => hk.1.2) (.string t258)) (fun _ hk => hk.2) (.string t257)) (fun _ hk => hk.2) (.string t258)) (fun _ h_ => h_.1)) (fun _ h_ => h_.1)))); (case side2 => exact (Kd.R_reads' HO250.out).2.1); rintro e w37 ⟨rfl, hb⟩; refine ⟨_, rfl, ?_⟩; have n0_ := Aside0.mk (Kd.R_below (by (with_reducible repeat (first | apply Kd.R_alloc | apply Kd.R_drewN | apply Kd.R_drew)); exact (Kd.R_mono (Kd.R_mono (Kd.R_far (p := ⟨gb251, 1, none⟩) (Kd.R_far (p := ⟨gb251, 0, none⟩) (Kd.R_far (p := ⟨gb260, 1, none⟩) (Kd.R_far (p := ⟨gb260, 0, none⟩) (Kd.R_types (Kd.R_types HO250.out BK260.out (by decide)) BK251.out (by decide)) (fun _ hk => hk.1.2) (.string t257)) (fun _ hk => hk.1.2) (.string t258)) (fun _ hk => hk.2) (.string t257)) (fun _ hk => hk.2) (.string t258)) (fun _ h_ => h_.1)) (fun _ h_ => h_.1))) hb); have n1_ := Aside0.mk (blk_below (g := gb244) (o := .cells #[.string (⟨#[]⟩ : ByteArray), .string (⟨#[]⟩ : ByteArray), .bool false, .int .i64 0] 77 (0, 0)) (by (with_reducible repeat (first | refine blk_drewN ?_ _ | refine blk_drew ?_ | refine blk_alloc ?_ _)); refine blk_far ?_ NB244_251.out _; (with_reducible repeat (first | refine blk_drewN ?_ _ | refine blk_drew ?_ | refine blk_alloc ?_ _)); refine blk_far ?_ NB244_251.out _; (with_reducible repeat (first | refine blk_drewN ?_ _ | refine blk_drew ?_ | refine blk_alloc ?_ _)); refine blk_far ?_ NB244_260.out _; (with_reducible repeat (first | refine blk_drewN ?_ _ | refine blk_drew ?_ | refine blk_alloc ?_ _)); refine blk_far ?_ NB244_260.out _; (with_reducible repeat (first | refine blk_drewN ?_ _ | refine blk_drew ?_ | refine blk_alloc ?_ _)); exact BK244.out) hb); have n2_ := Aside0.mk (blk_below (g := gb251) (o := .cells #[.string t257, .string t258, .bool false, .int .i64 0] 77 (0, 0)) (by (with_reducible repeat (first | refine blk_drewN ?_ _ | refine blk_drew ?_ | refine blk_alloc ?_ _)); refine blk_put (cs := #[.string t257, .string (⟨#[]⟩ : ByteArray), .bool false, .int .i64 0]) ?_ 1 _ rfl; (with_reducible repeat (first | refine blk_drewN ?_ _ | refine blk_drew ?_ | refine blk_alloc ?_ _)); refine blk_put (cs := #[.string (⟨#[]⟩ : ByteArray), .string (⟨#[]⟩ : ByteArray), .bool false, .int .i64 0]) ?_ 0 _ rfl; (with_reducible repeat (first | refine blk_drewN ?_ _ | refine blk_drew ?_ | refine blk_alloc ?_ _)); refine blk_far ?_ NB251_260.out _; (with_reducible repeat (first | refine blk_drewN ?_ _ | refine blk_drew ?_ | refine blk_alloc ?_ _)); refine blk_far ?_ NB251_260.out _; (with_reducible repeat (first | refine blk_drewN ?_ _ | refine blk_drew ?_ | refine blk_alloc ?_ _)); exact BK251.out) hb); have n3_ := Aside0.mk (blk_below (g := gb260) (o := .cells #[.string t257, .string t258] 51 (0, 0)) (by (with_reducible repeat (first | refine blk_drewN ?_ _ | refine blk_drew ?_ | refine blk_alloc ?_ _)); refine blk_far ?_ NB260_251.out _; (with_reducible repeat (first | refine blk_drewN ?_ _ | refine blk_drew ?_ | refine blk_alloc ?_ _)); refine blk_far ?_ NB260_251.out _; (with_reducible repeat (first | refine blk_drewN ?_ _ | refine blk_drew ?_ | refine blk_alloc ?_ _)); refine blk_put (cs := #[.string t257, .string (⟨#[]⟩ : ByteArray)]) ?_ 1 _ rfl; (with_reducible repeat (first | refine blk_drewN ?_ _ | refine blk_drew ?_ | refine blk_alloc ?_ _)); refine blk_put (cs := #[.string (⟨#[]⟩ : ByteArray), .string (⟨#[]⟩ : ByteArray)]) ?_ 0 _ rfl; (with_reducible repeat (first | refine blk_drewN ?_ _ | refine blk_drew ?_ | refine blk_alloc ?_ _)); exact BK260.out) hb); have n4_ := Aside0.mk (below_step (by repeat (first | (with_reducible first | exact HB.out | apply below_alloc | apply pw_below_drewN | apply below_drew1 | refine below_set ?_ GE244.out | refine below_set ?_ GE251.out | refine below_set ?_ GE260.out) | exact HB.out)) hb); clear HO250; clear BK244; clear BK251; clear BK260; clear HB; have HO250 := n0_; have BK244 := n1_; have BK251 := n2_; have BK260 := n3_; have HB := n4_; clear n0_ n1_ n2_ n3_ n4_; (try clear hb); (try clear hb2); (try clear hk); (try clear hi); have hcz38_0 : w37.cell? ⟨gb244, 0, none⟩ = some (.string (⟨#[]⟩ : ByteArray)) := (blk_cell BK244.out 0).trans rfl; have hcz38_1 : w37.cell? ⟨gb244, 1, none⟩ = some (.string (⟨#[]⟩ : ByteArray)) := (blk_cell BK244.out 1).trans rfl; have hcz38_2 : w37.cell? ⟨gb244, 2, none⟩ = some (.bool false) := (blk_cell BK244.out 2).trans rfl; have hcz38_3 : w37.cell? ⟨gb244, 3, none⟩ = some (.int .i64 0) := (blk_cell BK244.out 3).trans rfl; have hfz38_0 := blk_frozen BK244.out 0; have hfz38_1 := blk_frozen BK244.out 1; have hfz38_2 := blk_frozen BK244.out 2; have hfz38_3 := blk_frozen BK244.out 3))
     refine bodyPost_ret (results_ct rfl _ _ gb244 77 #[.string t261, .string t262, .bool t263, .int .i64 t264] (0, 0) _ rfl (by (with_reducible repeat (first | refine blk_drewN ?_ _ | refine blk_drew ?_ | refine blk_alloc ?_ _)); refine blk_put (cs := #[.string t261, .string t262, .bool t263, .int .i64 0]) ?_ 3 _ rfl; (with_reducible repeat (first | refine blk_drewN ?_ _ | refine blk_drew ?_ | refine blk_alloc ?_ _)); refine blk_put (cs := #[.string t261, .string t262, .bool false, .int .i64 0]) ?_ 2 _ rfl; (with_reducible repeat (first | refine blk_drewN ?_ _ | refine blk_drew ?_ | refine blk_alloc ?_ _)); refine blk_put (cs := #[.string t261, .string (⟨#[]⟩ : ByteArray), .bool false, .int .i64 0]) ?_ 1 _ rfl; (with_reducible repeat (first | refine blk_drewN ?_ _ | refine blk_drew ?_ | refine blk_alloc ?_ _)); refine blk_put (cs := #[.string (⟨#[]⟩ : ByteArray), .string (⟨#[]⟩ : ByteArray), .bool false, .int .i64 0]) ?_ 0 _ rfl; (with_reducible repeat (first | refine blk_drewN ?_ _ | refine blk_drew ?_ | refine blk_alloc ?_ _)); exact BK244.out) Tryd.underlying77 rfl (by kernel_rfl)) rfl ?_
     exact ⟨by first | rfl | (simp [errW_none, errW_some] <;> rfl) | (simp [*, errW_none, errW_some] <;> rfl), by repeat (first | (with_reducible first | exact HB.out | apply below_alloc | apply pw_below_drewN | apply below_drew1 | refine below_set ?_ GE244.out | refine below_set ?_ GE251.out | refine below_set ?_ GE260.out) | exact HB.out)⟩
    ·rw [if_neg c23] at H
     have c23b0 : (t248 == 0) = false := beq_eq_false_iff_ne.mpr c23
     have c23b1 : (t248 != 0) = true := bne_iff_ne.mpr c23
     simp only [Option.some.injEq, Prod.mk.injEq] at H
     obtain ⟨rfl, rfl, rfl, rfl, rfl⟩ := H
     go_enter Tryd.func49, Tryd.ntmps49
     go_wp2_with (first | ((with_reducible refine gate_dst (N := 2) rfl ?_); refine box_event ?hg (N := 2) ?hd (cs := #[.string (⟨#[]⟩ : ByteArray), .string (⟨#[]⟩ : ByteArray), .bool false, .int .i64 0]) (t := 77) ?hr ?_; (case hd => rfl); (case hg => rfl); (case hr => first | (go_simp; done) | (go_simp; rfl)); intro gb244 hg w39 hbox hb; have n0_ := Aside0.mk (below_step bw hb); have n1_ := Aside0.mk (hbox); have n2_ := Aside0.mk ((by rw [hg]; exact (below_size bw) : w.heap.size ≤ gb244)); have n3_ := Aside0.mk ((by rw [hg]; exact (below_size bw) : w.heap.size ≤ gb244)); clear HB; have HB := n0_; have BK244 := n1_; have GW244 := n2_; have GE244 := n3_; clear n0_ n1_ n2_ n3_; clear hb hbox hg) | ((with_reducible refine gate_callee (f := 100) rfl ?_); refine goesL_ (some 13) rfl rfl Tryd.func100 (by kernel_rfl) rfl #[.string a0] rfl am ?_; (with_reducible refine (path_split.calls (hG := by first | exact hG | exact Glob.below hG (by first | exact HB.out | (repeat (first | (with_reducible first | exact HB.out | apply below_alloc | apply pw_below_drewN | apply below_drew1 | refine below_set ?_ GE244.out | refine below_set ?_ GE251.out | refine below_set ?_ GE260.out) | exact HB.out))) | exact Glob.drawn hG (by repeat (first | exact Drawn0.refl _ | apply Drawn0.step))) a0 t245 t246 t247 t248 _ A2.out).mono ?_); rintro e w40 ⟨v249, rfl, ho0, hb⟩; refine ⟨_, rfl, ?_⟩; have n0_ := Aside0.mk (Kd.R_lower ho0 (below_size bwS)); have n1_ := Aside0.mk (blk_below (g := gb244) (o := .cells #[.string (⟨#[]⟩ : ByteArray), .string (⟨#[]⟩ : ByteArray), .bool false, .int .i64 0] 77 (0, 0)) bk hb); have n2_ := Aside0.mk (below_step bwS hb); clear BK244; clear HB; have HO250 := n0_; have BK244 := n1_; have HB := n2_; clear n0_ n1_ n2_; (try clear hb); (try clear hb2); (try clear hk); (try clear hi); (try clear ho0)) | ((with_reducible refine gate_dst (N := 8) rfl ?_); refine box_event ?hg (N := 8) ?hd (cs := #[.string (⟨#[]⟩ : ByteArray), .string (⟨#[]⟩ : ByteArray), .bool false, .int .i64 0]) (t := 77) ?hr ?_; (case hd => rfl); (case hg => rfl); (case hr => first | (go_simp; done) | (go_simp; rfl)); intro gb251 hg w41 hbox hb; have n0_ := Aside0.mk (Kd.R_below (by (with_reducible repeat (first | apply Kd.R_alloc | apply Kd.R_drewN | apply Kd.R_drew)); exact HO250.out) hb); have n1_ := Aside0.mk (blk_below (g := gb244) (o := .cells #[.string (⟨#[]⟩ : ByteArray), .string (⟨#[]⟩ : ByteArray), .bool false, .int .i64 0] 77 (0, 0)) bk hb); have n2_ := Aside0.mk (below_step bwS hb); have n3_ := Aside0.mk (hbox); have n4_ := Aside0.mk ((by rw [hg]; exact (below_size bwS) : w.heap.size ≤ gb251)); have n5_ := Aside0.mk ((by rw [hg]; exact (below_size bwS) : w.heap.size ≤ gb251)); have n6_ := Aside0.mk ((by rw [hg]; exact Nat.ne_of_lt (blk_lt (g := gb244) (o := .cells #[.string (⟨#[]⟩ : ByteArray), .string (⟨#[]⟩ : ByteArray), .bool false, .int .i64 0] 77 (0, 0)) bk) : gb244 ≠ gb251)); have n7_ := Aside0.mk ((by rw [hg]; exact Nat.ne_of_gt (blk_lt (g := gb244) (o := .cells #[.string (⟨#[]⟩ : ByteArray), .string (⟨#[]⟩ : ByteArray), .bool false, .int .i64 0] 77 (0, 0)) bk) : gb251 ≠ gb244)); clear HO250; clear BK244; clear HB; have HO250 := n0_; have BK244 := n1_; have HB := n2_; have BK251 := n3_; have GW251 := n4_; have GE251 := n5_; have NB244_251 := n6_; have NB251_244 := n7_; clear n0_ n1_ n2_ n3_ n4_ n5_ n6_ n7_; clear hb hbox hg; have hnb42 := NB251_244.out; have hnc42 := NB244_251.out; have hcz43_0 : w41.cell? ⟨gb251, 0, none⟩ = some (.string (⟨#[]⟩ : ByteArray)) := (blk_cell BK251.out 0).trans rfl; have hcz43_1 : w41.cell? ⟨gb251, 1, none⟩ = some (.string (⟨#[]⟩ : ByteArray)) := (blk_cell BK251.out 1).trans rfl; have hcz43_2 : w41.cell? ⟨gb251, 2, none⟩ = some (.bool false) := (blk_cell BK251.out 2).trans rfl; have hcz43_3 : w41.cell? ⟨gb251, 3, none⟩ = some (.int .i64 0) := (blk_cell BK251.out 3).trans rfl; have hfz43_0 := blk_frozen BK251.out 0; have hfz43_1 := blk_frozen BK251.out 1; have hfz43_2 := blk_frozen BK251.out 2; have hfz43_3 := blk_frozen BK251.out 3) | ((with_reducible refine gate_callee (f := 101) rfl ?_); refine goesL_ (some 30) rfl rfl Tryd.func101 (by kernel_rfl) rfl #[.string t245] rfl am ?_; (with_reducible refine (addr_Strict.calls k t245 t257 t258 t259 _ A21.out).mono ?_); rintro e w44 ⟨rfl, hb⟩; refine ⟨_, rfl, ?_⟩; have n0_ := Aside0.mk (Kd.R_below (by (with_reducible repeat (first | apply Kd.R_alloc | apply Kd.R_drewN | apply Kd.R_drew)); exact (Kd.R_mono (Kd.R_far (p := ⟨gb251, 3, none⟩) (Kd.R_far (p := ⟨gb251, 2, none⟩) (Kd.R_far (p := ⟨gb251, 1, none⟩) (Kd.R_far (p := ⟨gb251, 0, none⟩) (Kd.R_types HO250.out BK251.out (by decide)) (fun _ hk => hk.2) (.string (⟨#[]⟩ : ByteArray))) (fun _ hk => hk.2) (.string (⟨#[]⟩ : ByteArray))) (fun _ hk => hk.2) (.bool false)) (fun _ hk => hk.2) (.int .i64 0)) (fun _ h_ => h_.1))) hb); have n1_ := Aside0.mk (blk_below (g := gb244) (o := .cells #[.string (⟨#[]⟩ : ByteArray), .string (⟨#[]⟩ : ByteArray), .bool false, .int .i64 0] 77 (0, 0)) (by (with_reducible repeat (first | refine blk_drewN ?_ _ | refine blk_drew ?_ | refine blk_alloc ?_ _)); refine blk_far ?_ NB244_251.out _; (with_reducible repeat (first | refine blk_drewN ?_ _ | refine blk_drew ?_ | refine blk_alloc ?_ _)); refine blk_far ?_ NB244_251.out _; (with_reducible repeat (first | refine blk_drewN ?_ _ | refine blk_drew ?_ | refine blk_alloc ?_ _)); refine blk_far ?_ NB244_251.out _; (with_reducible repeat (first | refine blk_drewN ?_ _ | refine blk_drew ?_ | refine blk_alloc ?_ _)); refine blk_far ?_ NB244_251.out _; (with_reducible repeat (first | refine blk_drewN ?_ _ | refine blk_drew ?_ | refine blk_alloc ?_ _)); exact BK244.out) hb); have n2_ := Aside0.mk (blk_below (g := gb251) (o := .cells #[.string (⟨#[]⟩ : ByteArray), .string (⟨#[]⟩ : ByteArray), .bool false, .int .i64 0] 77 (0, 0)) (by (with_reducible repeat (first | refine blk_drewN ?_ _ | refine blk_drew ?_ | refine blk_alloc ?_ _)); refine blk_put (cs := #[.string (⟨#[]⟩ : ByteArray), .string (⟨#[]⟩ : ByteArray), .bool false, .int .i64 0]) ?_ 3 _ rfl; (with_reducible repeat (first | refine blk_drewN ?_ _ | refine blk_drew ?_ | refine blk_alloc ?_ _)); refine blk_put (cs := #[.string (⟨#[]⟩ : ByteArray), .string (⟨#[]⟩ : ByteArray), .bool false, .int .i64 0]) ?_ 2 _ rfl; (with_reducible repeat (first | refine blk_drewN ?_ _ | refine blk_drew ?_ | refine blk_alloc ?_ _)); refine blk_put (cs := #[.string (⟨#[]⟩ : ByteArray), .string (⟨#[]⟩ : ByteArray), .bool false, .int .i64 0]) ?_ 1 _ rfl; (with_reducible repeat (first | refine blk_drewN ?_ _ | refine blk_drew ?_ | refine blk_alloc ?_ _)); refine blk_put (cs := #[.string (⟨#[]⟩ : ByteArray), .string (⟨#[]⟩ : ByteArray), .bool false, .int .i64 0]) ?_ 0 _ rfl; (with_reducible repeat (first | refine blk_drewN ?_ _ | refine blk_drew ?_ | refine blk_alloc ?_ _)); exact BK251.out) hb); have n3_ := Aside0.mk (below_step (by repeat (first | (with_reducible first | exact HB.out | apply below_alloc | apply pw_below_drewN | apply below_drew1 | refine below_set ?_ GE244.out | refine below_set ?_ GE251.out) | exact HB.out)) hb); clear HO250; clear BK244; clear BK251; clear HB; have HO250 := n0_; have BK244 := n1_; have BK251 := n2_; have HB := n3_; clear n0_ n1_ n2_ n3_; (try clear hb); (try clear hb2); (try clear hk); (try clear hi)) | ((with_reducible refine gate_dst (N := 9) rfl ?_); refine box_event ?hg (N := 9) ?hd (cs := #[.string (⟨#[]⟩ : ByteArray), .string (⟨#[]⟩ : ByteArray)]) (t := 51) ?hr ?_; (case hd => rfl); (case hg => rfl); (case hr => first | (go_simp; done) | (go_simp; rfl)); intro gb260 hg w45 hbox hb; have n0_ := Aside0.mk (Kd.R_below (by (with_reducible repeat (first | apply Kd.R_alloc | apply Kd.R_drewN | apply Kd.R_drew)); exact HO250.out) hb); have n1_ := Aside0.mk (blk_below (g := gb244) (o := .cells #[.string (⟨#[]⟩ : ByteArray), .string (⟨#[]⟩ : ByteArray), .bool false, .int .i64 0] 77 (0, 0)) bk hb); have n2_ := Aside0.mk (blk_below (g := gb251) (o := .cells #[.string (⟨#[]⟩ : ByteArray), .string (⟨#[]⟩ : ByteArray), .bool false, .int .i64 0] 77 (0, 0)) bk hb); have n3_ := Aside0.mk (below_step (by repeat (first | (with_reducible first | exact HB.out | apply below_alloc | apply pw_below_drewN | apply below_drew1 | refine below_set ?_ GE244.out | refine below_set ?_ GE251.out) | exact HB.out)) hb); have n4_ := Aside0.mk (hbox); have n5_ := Aside0.mk ((by rw [hg]; exact (below_size (by repeat (first | (with_reducible first | exact HB.out | apply below_alloc | apply pw_below_drewN | apply below_drew1 | refine below_set ?_ GE244.out | refine below_set ?_ GE251.out) | exact HB.out))) : w.heap.size ≤ gb260)); have n6_ := Aside0.mk ((by rw [hg]; exact (below_size (by repeat (first | (with_reducible first | exact HB.out | apply below_alloc | apply pw_below_drewN | apply below_drew1 | refine below_set ?_ GE244.out | refine below_set ?_ GE251.out) | exact HB.out))) : w.heap.size ≤ gb260)); have n7_ := Aside0.mk ((by rw [hg]; exact Nat.ne_of_lt (blk_lt (g := gb244) (o := .cells #[.string (⟨#[]⟩ : ByteArray), .string (⟨#[]⟩ : ByteArray), .bool false, .int .i64 0] 77 (0, 0)) bk) : gb244 ≠ gb260)); have n8_ := Aside0.mk ((by rw [hg]; exact Nat.ne_of_gt (blk_lt (g := gb244) (o := .cells #[.string (⟨#[]⟩ : ByteArray), .string (⟨#[]⟩ : ByteArray), .bool false, .int .i64 0] 77 (0, 0)) bk) : gb260 ≠ gb244)); have n9_ := Aside0.mk ((by rw [hg]; exact Nat.ne_of_lt (blk_lt (g := gb251) (o := .cells #[.string (⟨#[]⟩ : ByteArray), .string (⟨#[]⟩ : ByteArray), .bool false, .int .i64 0] 77 (0, 0)) bk) : gb251 ≠ gb260)); have n10_ := Aside0.mk ((by rw [hg]; exact Nat.ne_of_gt (blk_lt (g := gb251) (o := .cells #[.string (⟨#[]⟩ : ByteArray), .string (⟨#[]⟩ : ByteArray), .bool false, .int .i64 0] 77 (0, 0)) bk) : gb260 ≠ gb251)); clear HO250; clear BK244; clear BK251; clear HB; have HO250 := n0_; have BK244 := n1_; have BK251 := n2_; have HB := n3_; have BK260 := n4_; have GW260 := n5_; have GE260 := n6_; have NB244_260 := n7_; have NB260_244 := n8_; have NB251_260 := n9_; have NB260_251 := n10_; clear n0_ n1_ n2_ n3_ n4_ n5_ n6_ n7_ n8_ n9_ n10_; clear hb hbox hg; have hnb46 := NB260_244.out; have hnc46 := NB244_260.out; have hnb47 := NB260_251.out; have hnc47 := NB251_260.out; have hcz48_0 : w45.cell? ⟨gb260, 0, none⟩ = some (.string (⟨#[]⟩ : ByteArray)) := (blk_cell BK260.out 0).trans rfl; have hcz48_1 : w45.cell? ⟨gb260, 1, none⟩ = some (.string (⟨#[]⟩ : ByteArray)) := (blk_cell BK260.out 1).trans rfl; have hfz48_0 := blk_frozen BK260.out 0; have hfz48_1 := blk_frozen BK260.out 1; have hcz49_0 : w45.cell? ⟨gb251, 0, none⟩ = some (.string (⟨#[]⟩ : ByteArray)) := (blk_cell BK251.out 0).trans rfl; have hcz49_1 : w45.cell? ⟨gb251, 1, none⟩ = some (.string (⟨#[]⟩ : ByteArray)) := (blk_cell BK251.out 1).trans rfl; have hcz49_2 : w45.cell? ⟨gb251, 2, none⟩ = some (.bool false) := (blk_cell BK251.out 2).trans rfl; have hcz49_3 : w45.cell? ⟨gb251, 3, none⟩ = some (.int .i64 0) := (blk_cell BK251.out 3).trans rfl; have hfz49_0 := blk_frozen BK251.out 0; have hfz49_1 := blk_frozen BK251.out 1; have hfz49_2 := blk_frozen BK251.out 2; have hfz49_3 := blk_frozen BK251.out 3; have hcz50_0 : w45.cell? ⟨gb244, 0, none⟩ = some (.string (⟨#[]⟩ : ByteArray)) := (blk_cell BK244.out 0).trans rfl; have hcz50_1 : w45.cell? ⟨gb244, 1, none⟩ = some (.string (⟨#[]⟩ : ByteArray)) := (blk_cell BK244.out 1).trans rfl; have hcz50_2 : w45.cell? ⟨gb244, 2, none⟩ = some (.bool false) := (blk_cell BK244.out 2).trans rfl; have hcz50_3 : w45.cell? ⟨gb244, 3, none⟩ = some (.int .i64 0) := (blk_cell BK244.out 3).trans rfl; have hfz50_0 := blk_frozen BK244.out 0; have hfz50_1 := blk_frozen BK244.out 1; have hfz50_2 := blk_frozen BK244.out 2; have hfz50_3 := blk_frozen BK244.out 3))
     refine bodyPost_ret (results_ct rfl _ _ gb244 77 #[.string (⟨#[]⟩ : ByteArray), .string (⟨#[]⟩ : ByteArray), .bool false, .int .i64 0] (0, 0) _ rfl (by (with_reducible repeat (first | refine blk_drewN ?_ _ | refine blk_drew ?_ | refine blk_alloc ?_ _)); refine blk_put (cs := #[.string (⟨#[]⟩ : ByteArray), .string (⟨#[]⟩ : ByteArray), .bool false, .int .i64 0]) ?_ 3 _ rfl; (with_reducible repeat (first | refine blk_drewN ?_ _ | refine blk_drew ?_ | refine blk_alloc ?_ _)); refine blk_put (cs := #[.string (⟨#[]⟩ : ByteArray), .string (⟨#[]⟩ : ByteArray), .bool false, .int .i64 0]) ?_ 2 _ rfl; (with_reducible repeat (first | refine blk_drewN ?_ _ | refine blk_drew ?_ | refine blk_alloc ?_ _)); refine blk_put (cs := #[.string (⟨#[]⟩ : ByteArray), .string (⟨#[]⟩ : ByteArray), .bool false, .int .i64 0]) ?_ 1 _ rfl; (with_reducible repeat (first | refine blk_drewN ?_ _ | refine blk_drew ?_ | refine blk_alloc ?_ _)); refine blk_put (cs := #[.string (⟨#[]⟩ : ByteArray), .string (⟨#[]⟩ : ByteArray), .bool false, .int .i64 0]) ?_ 0 _ rfl; (with_reducible repeat (first | refine blk_drewN ?_ _ | refine blk_drew ?_ | refine blk_alloc ?_ _)); refine blk_far ?_ NB244_251.out _; (with_reducible repeat (first | refine blk_drewN ?_ _ | refine blk_drew ?_ | refine blk_alloc ?_ _)); refine blk_far ?_ NB244_251.out _; (with_reducible repeat (first | refine blk_drewN ?_ _ | refine blk_drew ?_ | refine blk_alloc ?_ _)); refine blk_far ?_ NB244_260.out _; (with_reducible repeat (first | refine blk_drewN ?_ _ | refine blk_drew ?_ | refine blk_alloc ?_ _)); refine blk_far ?_ NB244_260.out _; (with_reducible repeat (first | refine blk_drewN ?_ _ | refine blk_drew ?_ | refine blk_alloc ?_ _)); exact BK244.out) Tryd.underlying77 rfl (by kernel_rfl)) rfl ?_
     exact ⟨by first | rfl | (simp [errW_none, errW_some] <;> rfl) | (simp [*, errW_none, errW_some] <;> rfl), by repeat (first | (with_reducible first | exact HB.out | apply below_alloc | apply pw_below_drewN | apply below_drew1 | refine below_set ?_ GE244.out | refine below_set ?_ GE251.out | refine below_set ?_ GE260.out) | exact HB.out)⟩
   ·rw [if_neg c22] at H
    have c22b0 : (t259 == 0) = false := beq_eq_false_iff_ne.mpr c22
    have c22b1 : (t259 != 0) = true := bne_iff_ne.mpr c22
    simp only [Option.some.injEq, Prod.mk.injEq] at H
    obtain ⟨rfl, rfl, rfl, rfl, rfl⟩ := H
    go_enter Tryd.func49, Tryd.ntmps49
    go_wp2_with (first | ((with_reducible refine gate_dst (N := 2) rfl ?_); refine box_event ?hg (N := 2) ?hd (cs := #[.string (⟨#[]⟩ : ByteArray), .string (⟨#[]⟩ : ByteArray), .bool false, .int .i64 0]) (t := 77) ?hr ?_; (case hd => rfl); (case hg => rfl); (case hr => first | (go_simp; done) | (go_simp; rfl)); intro gb244 hg w51 hbox hb; have n0_ := Aside0.mk (below_step bw hb); have n1_ := Aside0.mk (hbox); have n2_ := Aside0.mk ((by rw [hg]; exact (below_size bw) : w.heap.size ≤ gb244)); have n3_ := Aside0.mk ((by rw [hg]; exact (below_size bw) : w.heap.size ≤ gb244)); clear HB; have HB := n0_; have BK244 := n1_; have GW244 := n2_; have GE244 := n3_; clear n0_ n1_ n2_ n3_; clear hb hbox hg) | ((with_reducible refine gate_callee (f := 100) rfl ?_); refine goesL_ (some 13) rfl rfl Tryd.func100 (by kernel_rfl) rfl #[.string a0] rfl am ?_; (with_reducible refine (path_split.calls (hG := by first | exact hG | exact Glob.below hG (by first | exact HB.out | (repeat (first | (with_reducible first | exact HB.out | apply below_alloc | apply pw_below_drewN | apply below_drew1 | refine below_set ?_ GE244.out | refine below_set ?_ GE251.out | refine below_set ?_ GE260.out) | exact HB.out))) | exact Glob.drawn hG (by repeat (first | exact Drawn0.refl _ | apply Drawn0.step))) a0 t245 t246 t247 t248 _ A2.out).mono ?_); rintro e w52 ⟨v249, rfl, ho0, hb⟩; refine ⟨_, rfl, ?_⟩; have n0_ := Aside0.mk (Kd.R_lower ho0 (below_size bwS)); have n1_ := Aside0.mk (blk_below (g := gb244) (o := .cells #[.string (⟨#[]⟩ : ByteArray), .string (⟨#[]⟩ : ByteArray), .bool false, .int .i64 0] 77 (0, 0)) bk hb); have n2_ := Aside0.mk (below_step bwS hb); clear BK244; clear HB; have HO250 := n0_; have BK244 := n1_; have HB := n2_; clear n0_ n1_ n2_; (try clear hb); (try clear hb2); (try clear hk); (try clear hi); (try clear ho0)) | ((with_reducible refine gate_dst (N := 8) rfl ?_); refine box_event ?hg (N := 8) ?hd (cs := #[.string (⟨#[]⟩ : ByteArray), .string (⟨#[]⟩ : ByteArray), .bool false, .int .i64 0]) (t := 77) ?hr ?_; (case hd => rfl); (case hg => rfl); (case hr => first | (go_simp; done) | (go_simp; rfl)); intro gb251 hg w53 hbox hb; have n0_ := Aside0.mk (Kd.R_below (by (with_reducible repeat (first | apply Kd.R_alloc | apply Kd.R_drewN | apply Kd.R_drew)); exact HO250.out) hb); have n1_ := Aside0.mk (blk_below (g := gb244) (o := .cells #[.string (⟨#[]⟩ : ByteArray), .string (⟨#[]⟩ : ByteArray), .bool false, .int .i64 0] 77 (0, 0)) bk hb); have n2_ := Aside0.mk (below_step bwS hb); have n3_ := Aside0.mk (hbox); have n4_ := Aside0.mk ((by rw [hg]; exact (below_size bwS) : w.heap.size ≤ gb251)); have n5_ := Aside0.mk ((by rw [hg]; exact (below_size bwS) : w.heap.size ≤ gb251)); have n6_ := Aside0.mk ((by rw [hg]; exact Nat.ne_of_lt (blk_lt (g := gb244) (o := .cells #[.string (⟨#[]⟩ : ByteArray), .string (⟨#[]⟩ : ByteArray), .bool false, .int .i64 0] 77 (0, 0)) bk) : gb244 ≠ gb251)); have n7_ := Aside0.mk ((by rw [hg]; exact Nat.ne_of_gt (blk_lt (g := gb244) (o := .cells #[.string (⟨#[]⟩ : ByteArray), .string (⟨#[]⟩ : ByteArray), .bool false, .int .i64 0] 77 (0, 0)) bk) : gb251 ≠ gb244)); clear HO250; clear BK244; clear HB; have HO250 := n0_; have BK244 := n1_; have HB := n2_; have BK251 := n3_; have GW251 := n4_; have GE251 := n5_; have NB244_251 := n6_; have NB251_244 := n7_; clear n0_ n1_ n2_ n3_ n4_ n5_ n6_ n7_; clear hb hbox hg; have hnb54 := NB251_244.out; have hnc54 := NB244_251.out; have hcz55_0 : w53.cell? ⟨gb251, 0, none⟩ = some (.string (⟨#[]⟩ : ByteArray)) := (blk_cell BK251.out 0).trans rfl; have hcz55_1 : w53.cell? ⟨gb251, 1, none⟩ = some (.string (⟨#[]⟩ : ByteArray)) := (blk_cell BK251.out 1).trans rfl; have hcz55_2 : w53.cell? ⟨gb251, 2, none⟩ = some (.bool false) := (blk_cell BK251.out 2).trans rfl; have hcz55_3 : w53.cell? ⟨gb251, 3, none⟩ = some (.int .i64 0) := (blk_cell BK251.out 3).trans rfl; have hfz55_0 := blk_frozen BK251.out 0; have hfz55_1 := blk_frozen BK251.out 1; have hfz55_2 := blk_frozen BK251.out 2; have hfz55_3 := blk_frozen BK251.out 3) | ((with_reducible refine gate_callee (f := 101) rfl ?_); refine goesL_ (some 30) rfl rfl Tryd.func101 (by kernel_rfl) rfl #[.string t245] rfl am ?_; (with_reducible refine (addr_Strict.calls k t245 t257 t258 t259 _ A21.out).mono ?_); rintro e w56 ⟨rfl, hb⟩; refine ⟨_, rfl, ?_⟩; have n0_ := Aside0.mk (Kd.R_below (by (with_reducible repeat (first | apply Kd.R_alloc | apply Kd.R_drewN | apply Kd.R_drew)); exact (Kd.R_mono (Kd.R_far (p := ⟨gb251, 3, none⟩) (Kd.R_far (p := ⟨gb251, 2, none⟩) (Kd.R_far (p := ⟨gb251, 1, none⟩) (Kd.R_far (p := ⟨gb251, 0, none⟩) (Kd.R_types HO250.out BK251.out (by decide)) (fun _ hk => hk.2) (.string (⟨#[]⟩ : ByteArray))) (fun _ hk => hk.2) (.string (⟨#[]⟩ : ByteArray))) (fun _ hk => hk.2) (.bool false)) (fun _ hk => hk.2) (.int .i64 0)) (fun _ h_ => h_.1))) hb); have n1_ := Aside0.mk (blk_below (g := gb244) (o := .cells #[.string (⟨#[]⟩ : ByteArray), .string (⟨#[]⟩ : ByteArray), .bool false, .int .i64 0] 77 (0, 0)) (by (with_reducible repeat (first | refine blk_drewN ?_ _ | refine blk_drew ?_ | refine blk_alloc ?_ _)); refine blk_far ?_ NB244_251.out _; (with_reducible repeat (first | refine blk_drewN ?_ _ | refine blk_drew ?_ | refine blk_alloc ?_ _)); refine blk_far ?_ NB244_251.out _; (with_reducible repeat (first | refine blk_drewN ?_ _ | refine blk_drew ?_ | refine blk_alloc ?_ _)); refine blk_far ?_ NB244_251.out _; (with_reducible repeat (first | refine blk_drewN ?_ _ | refine blk_drew ?_ | refine blk_alloc ?_ _)); refine blk_far ?_ NB244_251.out _; (with_reducible repeat (first | refine blk_drewN ?_ _ | refine blk_drew ?_ | refine blk_alloc ?_ _)); exact BK244.out) hb); have n2_ := Aside0.mk (blk_below (g := gb251) (o := .cells #[.string (⟨#[]⟩ : ByteArray), .string (⟨#[]⟩ : ByteArray), .bool false, .int .i64 0] 77 (0, 0)) (by (with_reducible repeat (first | refine blk_drewN ?_ _ | refine blk_drew ?_ | refine blk_alloc ?_ _)); refine blk_put (cs := #[.string (⟨#[]⟩ : ByteArray), .string (⟨#[]⟩ : ByteArray), .bool false, .int .i64 0]) ?_ 3 _ rfl; (with_reducible repeat (first | refine blk_drewN ?_ _ | refine blk_drew ?_ | refine blk_alloc ?_ _)); refine blk_put (cs := #[.string (⟨#[]⟩ : ByteArray), .string (⟨#[]⟩ : ByteArray), .bool false, .int .i64 0]) ?_ 2 _ rfl; (with_reducible repeat (first | refine blk_drewN ?_ _ | refine blk_drew ?_ | refine blk_alloc ?_ _)); refine blk_put (cs := #[.string (⟨#[]⟩ : ByteArray), .string (⟨#[]⟩ : ByteArray), .bool false, .int .i64 0]) ?_ 1 _ rfl; (with_reducible repeat (first | refine blk_drewN ?_ _ | refine blk_drew ?_ | refine blk_alloc ?_ _)); refine blk_put (cs := #[.string (⟨#[]⟩ : ByteArray), .string (⟨#[]⟩ : ByteArray), .bool false, .int .i64 0]) ?_ 0 _ rfl; (with_reducible repeat (first | refine blk_drewN ?_ _ | refine blk_drew ?_ | refine blk_alloc ?_ _)); exact BK251.out) hb); have n3_ := Aside0.mk (below_step (by repeat (first | (with_reducible first | exact HB.out | apply below_alloc | apply pw_below_drewN | apply below_drew1 | refine below_set ?_ GE244.out | refine below_set ?_ GE251.out) | exact HB.out)) hb); clear HO250; clear BK244; clear BK251; clear HB; have HO250 := n0_; have BK244 := n1_; have BK251 := n2_; have HB := n3_; clear n0_ n1_ n2_ n3_; (try clear hb); (try clear hb2); (try clear hk); (try clear hi)) | ((with_reducible refine gate_dst (N := 9) rfl ?_); refine box_event ?hg (N := 9) ?hd (cs := #[.string (⟨#[]⟩ : ByteArray), .string (⟨#[]⟩ : ByteArray)]) (t := 51) ?hr ?_; (case hd => rfl); (case hg => rfl); (case hr => first | (go_simp; done) | (go_simp; rfl)); intro gb260 hg w57 hbox hb; have n0_ := Aside0.mk (Kd.R_below (by (with_reducible repeat (first | apply Kd.R_alloc | apply Kd.R_drewN | apply Kd.R_drew)); exact HO250.out) hb); have n1_ := Aside0.mk (blk_below (g := gb244) (o := .cells #[.string (⟨#[]⟩ : ByteArray), .string (⟨#[]⟩ : ByteArray), .bool false, .int .i64 0] 77 (0, 0)) bk hb); have n2_ := Aside0.mk (blk_below (g := gb251) (o := .cells #[.string (⟨#[]⟩ : ByteArray), .string (⟨#[]⟩ : ByteArray), .bool false, .int .i64 0] 77 (0, 0)) bk hb); have n3_ := Aside0.mk (below_step (by repeat (first | (with_reducible first | exact HB.out | apply below_alloc | apply pw_below_drewN | apply below_drew1 | refine below_set ?_ GE244.out | refine below_set ?_ GE251.out) | exact HB.out)) hb); have n4_ := Aside0.mk (hbox); have n5_ := Aside0.mk ((by rw [hg]; exact (below_size (by repeat (first | (with_reducible first | exact HB.out | apply below_alloc | apply pw_below_drewN | apply below_drew1 | refine below_set ?_ GE244.out | refine below_set ?_ GE251.out) | exact HB.out))) : w.heap.size ≤ gb260)); have n6_ := Aside0.mk ((by rw [hg]; exact (below_size (by repeat (first | (with_reducible first | exact HB.out | apply below_alloc | apply pw_below_drewN | apply below_drew1 | refine below_set ?_ GE244.out | refine below_set ?_ GE251.out) | exact HB.out))) : w.heap.size ≤ gb260)); have n7_ := Aside0.mk ((by rw [hg]; exact Nat.ne_of_lt (blk_lt (g := gb244) (o := .cells #[.string (⟨#[]⟩ : ByteArray), .string (⟨#[]⟩ : ByteArray), .bool false, .int .i64 0] 77 (0, 0)) bk) : gb244 ≠ gb260)); have n8_ := Aside0.mk ((by rw [hg]; exact Nat.ne_of_gt (blk_lt (g := gb244) (o := .cells #[.string (⟨#[]⟩ : ByteArray), .string (⟨#[]⟩ : ByteArray), .bool false, .int .i64 0] 77 (0, 0)) bk) : gb260 ≠ gb244)); have n9_ := Aside0.mk ((by rw [hg]; exact Nat.ne_of_lt (blk_lt (g := gb251) (o := .cells #[.string (⟨#[]⟩ : ByteArray), .string (⟨#[]⟩ : ByteArray), .bool false, .int .i64 0] 77 (0, 0)) bk) : gb251 ≠ gb260)); have n10_ := Aside0.mk ((by rw [hg]; exact Nat.ne_of_gt (blk_lt (g := gb251) (o := .cells #[.string (⟨#[]⟩ : ByteArray), .string (⟨#[]⟩ : ByteArray), .bool false, .int .i64 0] 77 (0, 0)) bk) : gb260 ≠ gb251)); clear HO250; clear BK244; clear BK251; clear HB; have HO250 := n0_; have BK244 := n1_; have BK251 := n2_; have HB := n3_; have BK260 := n4_; have GW260 := n5_; have GE260 := n6_; have NB244_260 := n7_; have NB260_244 := n8_; have NB251_260 := n9_; have NB260_251 := n10_; clear n0_ n1_ n2_ n3_ n4_ n5_ n6_ n7_ n8_ n9_ n10_; clear hb hbox hg; have hnb58 := NB260_244.out; have hnc58 := NB244_260.out; have hnb59 := NB260_251.out; have hnc59 := NB251_260.out; have hcz60_0 : w57.cell? ⟨gb260, 0, none⟩ = some (.string (⟨#[]⟩ : ByteArray)) := (blk_cell BK260.out 0).trans rfl; have hcz60_1 : w57.cell? ⟨gb260, 1, none⟩ = some (.string (⟨#[]⟩ : ByteArray)) := (blk_cell BK260.out 1).trans rfl; have hfz60_0 := blk_frozen BK260.out 0; have hfz60_1 := blk_frozen BK260.out 1; have hcz61_0 : w57.cell? ⟨gb244, 0, none⟩ = some (.string (⟨#[]⟩ : ByteArray)) := (blk_cell BK244.out 0).trans rfl; have hcz61_1 : w57.cell? ⟨gb244, 1, none⟩ = some (.string (⟨#[]⟩ : ByteArray)) := (blk_cell BK244.out 1).trans rfl; have hcz61_2 : w57.cell? ⟨gb244, 2, none⟩ = some (.bool false) := (blk_cell BK244.out 2).trans rfl; have hcz61_3 : w57.cell? ⟨gb244, 3, none⟩ = some (.int .i64 0) := (blk_cell BK244.out 3).trans rfl; have hfz61_0 := blk_frozen BK244.out 0; have hfz61_1 := blk_frozen BK244.out 1; have hfz61_2 := blk_frozen BK244.out 2; have hfz61_3 := blk_frozen BK244.out 3))
    refine bodyPost_ret (results_ct rfl _ _ gb244 77 #[.string (⟨#[]⟩ : ByteArray), .string (⟨#[]⟩ : ByteArray), .bool false, .int .i64 0] (0, 0) _ rfl (by (with_reducible repeat (first | refine blk_drewN ?_ _ | refine blk_drew ?_ | refine blk_alloc ?_ _)); refine blk_put (cs := #[.string (⟨#[]⟩ : ByteArray), .string (⟨#[]⟩ : ByteArray), .bool false, .int .i64 0]) ?_ 3 _ rfl; (with_reducible repeat (first | refine blk_drewN ?_ _ | refine blk_drew ?_ | refine blk_alloc ?_ _)); refine blk_put (cs := #[.string (⟨#[]⟩ : ByteArray), .string (⟨#[]⟩ : ByteArray), .bool false, .int .i64 0]) ?_ 2 _ rfl; (with_reducible repeat (first | refine blk_drewN ?_ _ | refine blk_drew ?_ | refine blk_alloc ?_ _)); refine blk_put (cs := #[.string (⟨#[]⟩ : ByteArray), .string (⟨#[]⟩ : ByteArray), .bool false, .int .i64 0]) ?_ 1 _ rfl; (with_reducible repeat (first | refine blk_drewN ?_ _ | refine blk_drew ?_ | refine blk_alloc ?_ _)); refine blk_put (cs := #[.string (⟨#[]⟩ : ByteArray), .string (⟨#[]⟩ : ByteArray), .bool false, .int .i64 0]) ?_ 0 _ rfl; (with_reducible repeat (first | refine blk_drewN ?_ _ | refine blk_drew ?_ | refine blk_alloc ?_ _)); refine blk_far ?_ NB244_260.out _; (with_reducible repeat (first | refine blk_drewN ?_ _ | refine blk_drew ?_ | refine blk_alloc ?_ _)); refine blk_far ?_ NB244_260.out _; (with_reducible repeat (first | refine blk_drewN ?_ _ | refine blk_drew ?_ | refine blk_alloc ?_ _)); exact BK244.out) Tryd.underlying77 rfl (by kernel_rfl)) rfl ?_
    exact ⟨by first | rfl | (simp [errW_none, errW_some] <;> rfl) | (simp [*, errW_none, errW_some] <;> rfl), by repeat (first | (with_reducible first | exact HB.out | apply below_alloc | apply pw_below_drewN | apply below_drew1 | refine below_set ?_ GE244.out | refine below_set ?_ GE251.out | refine below_set ?_ GE260.out) | exact HB.out)⟩
 ·rw [if_neg c3] at H
  have c3b0 : (t247 == 0) = false := beq_eq_false_iff_ne.mpr c3
  have c3b1 : (t247 != 0) = true := bne_iff_ne.mpr c3
  simp only [Option.some.injEq, Prod.mk.injEq] at H
  obtain ⟨rfl, rfl, rfl, rfl, rfl⟩ := H
  go_enter Tryd.func49, Tryd.ntmps49
  go_wp2_with (first | ((with_reducible refine gate_dst (N := 2) rfl ?_); refine box_event ?hg (N := 2) ?hd (cs := #[.string (⟨#[]⟩ : ByteArray), .string (⟨#[]⟩ : ByteArray), .bool false, .int .i64 0]) (t := 77) ?hr ?_; (case hd => rfl); (case hg => rfl); (case hr => first | (go_simp; done) | (go_simp; rfl)); intro gb244 hg w62 hbox hb; have n0_ := Aside0.mk (below_step bw hb); have n1_ := Aside0.mk (hbox); have n2_ := Aside0.mk ((by rw [hg]; exact (below_size bw) : w.heap.size ≤ gb244)); have n3_ := Aside0.mk ((by rw [hg]; exact (below_size bw) : w.heap.size ≤ gb244)); clear HB; have HB := n0_; have BK244 := n1_; have GW244 := n2_; have GE244 := n3_; clear n0_ n1_ n2_ n3_; clear hb hbox hg) | ((with_reducible refine gate_callee (f := 100) rfl ?_); refine goesL_ (some 13) rfl rfl Tryd.func100 (by kernel_rfl) rfl #[.string a0] rfl am ?_; (with_reducible refine (path_split.calls (hG := by first | exact hG | exact Glob.below hG (by first | exact HB.out | (repeat (first | (with_reducible first | exact HB.out | apply below_alloc | apply pw_below_drewN | apply below_drew1 | refine below_set ?_ GE244.out | refine below_set ?_ GE251.out | refine below_set ?_ GE260.out) | exact HB.out))) | exact Glob.drawn hG (by repeat (first | exact Drawn0.refl _ | apply Drawn0.step))) a0 t245 t246 t247 t248 _ A2.out).mono ?_); rintro e w63 ⟨v249, rfl, ho0, hb⟩; refine ⟨_, rfl, ?_⟩; have n0_ := Aside0.mk (Kd.R_lower ho0 (below_size bwS)); have n1_ := Aside0.mk (blk_below (g := gb244) (o := .cells #[.string (⟨#[]⟩ : ByteArray), .string (⟨#[]⟩ : ByteArray), .bool false, .int .i64 0] 77 (0, 0)) bk hb); have n2_ := Aside0.mk (below_step bwS hb); clear BK244; clear HB; have HO250 := n0_; have BK244 := n1_; have HB := n2_; clear n0_ n1_ n2_; (try clear hb); (try clear hb2); (try clear hk); (try clear hi); (try clear ho0); have hcz64_0 : w63.cell? ⟨gb244, 0, none⟩ = some (.string (⟨#[]⟩ : ByteArray)) := (blk_cell BK244.out 0).trans rfl; have hcz64_1 : w63.cell? ⟨gb244, 1, none⟩ = some (.string (⟨#[]⟩ : ByteArray)) := (blk_cell BK244.out 1).trans rfl; have hcz64_2 : w63.cell? ⟨gb244, 2, none⟩ = some (.bool false) := (blk_cell BK244.out 2).trans rfl; have hcz64_3 : w63.cell? ⟨gb244, 3, none⟩ = some (.int .i64 0) := (blk_cell BK244.out 3).trans rfl; have hfz64_0 := blk_frozen BK244.out 0; have hfz64_1 := blk_frozen BK244.out 1; have hfz64_2 := blk_frozen BK244.out 2; have hfz64_3 := blk_frozen BK244.out 3))
  refine bodyPost_ret (results_ct rfl _ _ gb244 77 #[.string (⟨#[]⟩ : ByteArray), .string (⟨#[]⟩ : ByteArray), .bool false, .int .i64 0] (0, 0) _ rfl (by (with_reducible repeat (first | refine blk_drewN ?_ _ | refine blk_drew ?_ | refine blk_alloc ?_ _)); refine blk_put (cs := #[.string (⟨#[]⟩ : ByteArray), .string (⟨#[]⟩ : ByteArray), .bool false, .int .i64 0]) ?_ 3 _ rfl; (with_reducible repeat (first | refine blk_drewN ?_ _ | refine blk_drew ?_ | refine blk_alloc ?_ _)); refine blk_put (cs := #[.string (⟨#[]⟩ : ByteArray), .string (⟨#[]⟩ : ByteArray), .bool false, .int .i64 0]) ?_ 2 _ rfl; (with_reducible repeat (first | refine blk_drewN ?_ _ | refine blk_drew ?_ | refine blk_alloc ?_ _)); refine blk_put (cs := #[.string (⟨#[]⟩ : ByteArray), .string (⟨#[]⟩ : ByteArray), .bool false, .int .i64 0]) ?_ 1 _ rfl; (with_reducible repeat (first | refine blk_drewN ?_ _ | refine blk_drew ?_ | refine blk_alloc ?_ _)); refine blk_put (cs := #[.string (⟨#[]⟩ : ByteArray), .string (⟨#[]⟩ : ByteArray), .bool false, .int .i64 0]) ?_ 0 _ rfl; (with_reducible repeat (first | refine blk_drewN ?_ _ | refine blk_drew ?_ | refine blk_alloc ?_ _)); exact BK244.out) Tryd.underlying77 rfl (by kernel_rfl)) rfl ?_
  exact ⟨by first | rfl | (simp [errW_none, errW_some] <;> rfl) | (simp [*, errW_none, errW_some] <;> rfl), by repeat (first | (with_reducible first | exact HB.out | apply below_alloc | apply pw_below_drewN | apply below_drew1 | refine below_set ?_ GE244.out) | exact HB.out)⟩

end Go.Proofs.YtgaaogijfikfeaaDoor.Fn
-- written by xprint.py of this session over the kit's printer; not trusted: Lean checks it
namespace Go.Proofs.YtgaaogijfikfeaaDoor.Fn
open Go.RowKit Go.Proofs.YtgaaogijfikfeaaDoorW.PrintWords Go.Proofs.YtgaaogijfikfeaaDoorW.PrintLast Go.Proofs.YtgaaogijfikfeaaDoorW.PrintMore
attribute [local go_sem] max2_int min2_int max_two min_two max_three min_three max_four min_four   -- for this text's walks alone
set_option linter.unusedVariables false
set_option linter.unusedSimpArgs false

/-! ### path_Show: function 42 -/
def path_Show.f (k : Nat) (a0_0 : ByteArray) (a0_1 : ByteArray) : Option (ByteArray) := (addr_Addr_Text.f k a0_0 a0_1).bind fun t133 => (if 1 + t133.size ≤ 9223372036854775807 then (if ((⟨#[60]⟩ : ByteArray) ++ t133).size + 1 ≤ 9223372036854775807 then (some (((⟨#[60]⟩ : ByteArray) ++ t133) ++ (⟨#[62]⟩ : ByteArray))) else (none)) else (none))
theorem path_Show.mono : ∀ a0 a1 k, LeO (path_Show.f k a0 a1) (path_Show.f (k + 1) a0 a1) := by
 intro a0 a1 k
 unfold path_Show.f
 repeat' first
   | (with_reducible exact addr_Addr_Text.mono _ _ _)
   | (with_reducible exact LeO.refl _)
   | (with_reducible exact LeO.none _)
   | (with_reducible refine LeO.ite ?_ ?_)
   | (with_reducible refine LeO.bind ?_ (fun _ => ?_))
   | exact addr_Addr_Text.mono _ _ _
   | exact LeO.none _
   | refine LeO.ite ?_ ?_
   | refine LeO.bind ?_ (fun _ => ?_)
set_option maxHeartbeats 8000000 in
set_option maxRecDepth 100000 in
theorem path_Show.calls (k : Nat) (a0_0 : ByteArray) (a0_1 : ByteArray) (r : ByteArray) (w : World) (h : path_Show.f k a0_0 a0_1 = some r) :
  Calls Tryd.prog 42 #[.agg #[.string a0_0, .string a0_1]] w fun e w' => e = .returned (.string r) ∧ Below w.heap.size w w' := by
 have hu51 := Tryd.underlying51
 have HB := Aside0.mk (Below.refl w.heap.size w)
 have H : ((addr_Addr_Text.f k a0_0 a0_1).bind fun t133 => (if 1 + t133.size ≤ 9223372036854775807 then (if ((⟨#[60]⟩ : ByteArray) ++ t133).size + 1 ≤ 9223372036854775807 then (some (((⟨#[60]⟩ : ByteArray) ++ t133) ++ (⟨#[62]⟩ : ByteArray))) else (none)) else (none))) = some r := h
 clear h
 replace H := Option.bind_eq_some_iff.mp H
 obtain ⟨t133, A20, H⟩ := H
 replace H : (if 1 + t133.size ≤ 9223372036854775807 then (if ((⟨#[60]⟩ : ByteArray) ++ t133).size + 1 ≤ 9223372036854775807 then (some (((⟨#[60]⟩ : ByteArray) ++ t133) ++ (⟨#[62]⟩ : ByteArray))) else (none)) else (none)) = some r := H
 have A2 := Aside0.mk A20
 clear A20
 by_cases c3 : 1 + t133.size ≤ 9223372036854775807
 ·rw [if_pos c3] at H
  have c3b0 := eq_true c3
  have c3b1 : decide (1 + t133.size ≤ 9223372036854775807) = true := decide_eq_true c3
  try have c3b2 : (9223372036854775807 < 1 + t133.size) = False := eq_false (Nat.not_lt.2 c3)
  by_cases c4 : ((⟨#[60]⟩ : ByteArray) ++ t133).size + 1 ≤ 9223372036854775807
  ·rw [if_pos c4] at H
   have c4b0 := eq_true c4
   have c4b1 : decide (((⟨#[60]⟩ : ByteArray) ++ t133).size + 1 ≤ 9223372036854775807) = true := decide_eq_true c4
   try have c4b2 : (9223372036854775807 < ((⟨#[60]⟩ : ByteArray) ++ t133).size + 1) = False := eq_false (Nat.not_lt.2 c4)
   try (have c4b3 := c4; simp only [ByteArray.size_append, size_lit, ByteArray.size_extract, List.size_toArray, List.length_cons, List.length_nil, Nat.zero_add, Nat.reduceAdd] at c4b3; have c4b4 := eq_false (Nat.not_lt.2 c4b3))
   obtain rfl := Option.some.inj H
   go_enter Tryd.func42, Tryd.ntmps42
   go_wp2_with (first | ((with_reducible refine gate_dst (N := 1) rfl ?_); refine box_event ?hg (N := 1) ?hd (cs := #[.string a0_0, .string a0_1]) (t := 51) ?hr ?_; (case hd => rfl); (case hg => rfl); (case hr => first | (go_simp; done) | (go_simp; rfl)); intro gb132 hg w5 hbox hb; have n0_ := Aside0.mk (below_step bw hb); have n1_ := Aside0.mk (hbox); have n2_ := Aside0.mk ((by rw [hg]; exact (below_size bw) : w.heap.size ≤ gb132)); have n3_ := Aside0.mk ((by rw [hg]; exact (below_size bw) : w.heap.size ≤ gb132)); clear HB; have HB := n0_; have BK132 := n1_; have GW132 := n2_; have GE132 := n3_; clear n0_ n1_ n2_ n3_; clear hb hbox hg; have hcz6_0 : w5.cell? ⟨gb132, 0, none⟩ = some (.string a0_0) := (blk_cell BK132.out 0).trans rfl; have hcz6_1 : w5.cell? ⟨gb132, 1, none⟩ = some (.string a0_1) := (blk_cell BK132.out 1).trans rfl; have hfz6_0 := blk_frozen BK132.out 0; have hfz6_1 := blk_frozen BK132.out 1) | ((with_reducible refine gate_callee (f := 82) rfl ?_); refine goesL_ (some 4) rfl rfl Tryd.func82 (by kernel_rfl) rfl #[.agg #[.string a0_0, .string a0_1]] rfl am ?_; (with_reducible refine (addr_Addr_Text.calls k a0_0 a0_1 t133 _ A2.out).mono ?_); rintro e w7 ⟨rfl, hb⟩; refine ⟨_, rfl, ?_⟩; have n0_ := Aside0.mk (blk_below (g := gb132) (o := .cells #[.string a0_0, .string a0_1] 51 (0, 0)) bk hb); have n1_ := Aside0.mk (below_step bwS hb); clear BK132; clear HB; have BK132 := n0_; have HB := n1_; clear n0_ n1_; (try clear hb); (try clear hb2); (try clear hk); (try clear hi)))
   go_ret
   exact ⟨by first | rfl | (simp [errW_none, errW_some] <;> rfl) | (simp [*, errW_none, errW_some] <;> rfl), by repeat (first | (with_reducible first | exact HB.out | apply below_alloc | apply pw_below_drewN | apply below_drew1 | refine below_set ?_ GE132.out) | exact HB.out)⟩
  ·rw [if_neg c4] at H
   exact absurd H (by simp)
 ·rw [if_neg c3] at H
  exact absurd H (by simp)

end Go.Proofs.YtgaaogijfikfeaaDoor.Fn
-- written by xprint.py of this session over the kit's printer; not trusted: Lean checks it
namespace Go.Proofs.YtgaaogijfikfeaaDoor.Fn
open Go.RowKit Go.Proofs.YtgaaogijfikfeaaDoorW.PrintWords Go.Proofs.YtgaaogijfikfeaaDoorW.PrintLast Go.Proofs.YtgaaogijfikfeaaDoorW.PrintMore
attribute [local go_sem] max2_int min2_int max_two min_two max_three min_three max_four min_four   -- for this text's walks alone
set_option linter.unusedVariables false
set_option linter.unusedSimpArgs false

/-! ### path_To: function 50 -/
def path_To.j0 : Nat → List ByteArray → Int → Int → ByteArray → ByteArray → Option (ByteArray × ByteArray × Int)
 | 0, _, _, _, _, _ => none
 | k + 1, x7, x8, x9, x274000, x274001 => if x8 = 0 then (if x9 = 0 then (if (x7.length : Int) > 0 then (some ((⟨#[]⟩ : ByteArray), (⟨#[]⟩ : ByteArray), 1)) else (some (x274000, x274001, 0))) else (some ((⟨#[]⟩ : ByteArray), (⟨#[]⟩ : ByteArray), x9))) else (some ((⟨#[]⟩ : ByteArray), (⟨#[]⟩ : ByteArray), x8))
def path_To.f (k : Nat) (a0 : ByteArray) (a1 : ByteArray) : Option (ByteArray × ByteArray × Int) := (path_split.f a0).bind fun bt267 => (if bt267.2.2.1 = 0 then ((glyph_Fold.f bt267.1).bind fun t274 => (if t274.toList = ([112, 111, 115, 116, 109, 97, 115, 116, 101, 114] : List UInt8) then (path_To.j0 k bt267.2.1 bt267.2.2.1 bt267.2.2.2 (⟨#[112, 111, 115, 116, 109, 97, 115, 116, 101, 114]⟩ : ByteArray) a1) else ((addr_Strict.f k bt267.1).bind fun bt275 => (path_To.j0 k bt267.2.1 bt275.2.2 bt267.2.2.2 bt275.1 bt275.2.1)))) else (some ((⟨#[]⟩ : ByteArray), (⟨#[]⟩ : ByteArray), bt267.2.2.1)))
theorem path_To.mono_l : ∀ k, (∀ y0 y1 y2 y3 y4, LeO (path_To.j0 k y0 y1 y2 y3 y4) (path_To.j0 (k + 1) y0 y1 y2 y3 y4))
 | 0 => fun _ _ _ _ _ r h => by simp [path_To.j0] at h
 | k + 1 => by
  have ih0 := path_To.mono_l k
  ·intro y0 y1 y2 y3 y4
   unfold path_To.j0
   repeat' first
   | (with_reducible exact ih0 _ _ _ _ _)
   | (with_reducible exact addr_Strict.mono _ _)
   | (with_reducible exact LeO.refl _)
   | (with_reducible exact LeO.none _)
   | (with_reducible refine LeO.ite ?_ ?_)
   | (with_reducible refine LeO.bind ?_ (fun _ => ?_))
   | exact ih0 _ _ _ _ _
   | exact addr_Strict.mono _ _
   | exact LeO.none _
   | refine LeO.ite ?_ ?_
   | refine LeO.bind ?_ (fun _ => ?_)
theorem path_To.mono : ∀ a0 a1 k, LeO (path_To.f k a0 a1) (path_To.f (k + 1) a0 a1) := by
 intro a0 a1 k
 have ih0 := path_To.mono_l k
 unfold path_To.f
 repeat' first
   | (with_reducible exact ih0 _ _ _ _ _)
   | (with_reducible exact addr_Strict.mono _ _)
   | (with_reducible exact LeO.refl _)
   | (with_reducible exact LeO.none _)
   | (with_reducible refine LeO.ite ?_ ?_)
   | (with_reducible refine LeO.bind ?_ (fun _ => ?_))
   | exact ih0 _ _ _ _ _
   | exact addr_Strict.mono _ _
   | exact LeO.none _
   | refine LeO.ite ?_ ?_
   | refine LeO.bind ?_ (fun _ => ?_)
set_option maxHeartbeats 8000000 in
set_option maxRecDepth 100000 in
theorem path_To.calls (k : Nat) (a0 : ByteArray) (a1 : ByteArray) (r1 : ByteArray) (r2 : ByteArray) (r3 : Int) (w : World) (hG : Glob w) (h : path_To.f k a0 a1 = some (r1, r2, r3)) :
  Calls Tryd.prog 50 #[.string a0, .string a1] w fun e w' => e = .returned (.tuple #[.agg #[.string r1, .string r2], .int .i64 r3]) ∧ Below w.heap.size w w' := by
 have hu51 := Tryd.underlying51
 have HB := Aside0.mk (Below.refl w.heap.size w)
 have H : ((path_split.f a0).bind fun bt267 => (if bt267.2.2.1 = 0 then ((glyph_Fold.f bt267.1).bind fun t274 => (if t274.toList = ([112, 111, 115, 116, 109, 97, 115, 116, 101, 114] : List UInt8) then (path_To.j0 k bt267.2.1 bt267.2.2.1 bt267.2.2.2 (⟨#[112, 111, 115, 116, 109, 97, 115, 116, 101, 114]⟩ : ByteArray) a1) else ((addr_Strict.f k bt267.1).bind fun bt275 => (path_To.j0 k bt267.2.1 bt275.2.2 bt267.2.2.2 bt275.1 bt275.2.1)))) else (some ((⟨#[]⟩ : ByteArray), (⟨#[]⟩ : ByteArray), bt267.2.2.1)))) = some (r1, r2, r3) := h
 clear h
 replace H := Option.bind_eq_some_iff.mp H
 obtain ⟨⟨t267, t268, t269, t270⟩, A30, H⟩ := H
 replace H : (if t269 = 0 then ((glyph_Fold.f t267).bind fun t274 => (if t274.toList = ([112, 111, 115, 116, 109, 97, 115, 116, 101, 114] : List UInt8) then (path_To.j0 k t268 t269 t270 (⟨#[112, 111, 115, 116, 109, 97, 115, 116, 101, 114]⟩ : ByteArray) a1) else ((addr_Strict.f k t267).bind fun bt275 => (path_To.j0 k t268 bt275.2.2 t270 bt275.1 bt275.2.1)))) else (some ((⟨#[]⟩ : ByteArray), (⟨#[]⟩ : ByteArray), t269))) = some (r1, r2, r3) := H
 have A3 := Aside0.mk A30
 clear A30
 by_cases c4 : t269 = 0
 ·rw [if_pos c4] at H
  have c4b0 : (t269 == 0) = true := beq_iff_eq.mpr c4
  have c4b1 : (t269 != 0) = false := bne_eq_false_iff_eq.mpr c4
  clear c4
  replace H := Option.bind_eq_some_iff.mp H
  obtain ⟨t274, A50, H⟩ := H
  replace H : (if t274.toList = ([112, 111, 115, 116, 109, 97, 115, 116, 101, 114] : List UInt8) then (path_To.j0 k t268 t269 t270 (⟨#[112, 111, 115, 116, 109, 97, 115, 116, 101, 114]⟩ : ByteArray) a1) else ((addr_Strict.f k t267).bind fun bt275 => (path_To.j0 k t268 bt275.2.2 t270 bt275.1 bt275.2.1))) = some (r1, r2, r3) := H
  have A5 := Aside0.mk A50
  clear A50
  have HC6 := Aside0.mk H
  clear H
  go_enter Tryd.func50, Tryd.ntmps50
  go_upto_if 26 with (first | ((with_reducible refine gate_dst (N := 4) rfl ?_); refine box_event ?hg (N := 4) ?hd (cs := #[.string (⟨#[]⟩ : ByteArray), .string (⟨#[]⟩ : ByteArray)]) (t := 51) ?hr ?_; (case hd => rfl); (case hg => rfl); (case hr => first | (go_simp; done) | (go_simp; rfl)); intro gb266 hg w7 hbox hb; have n0_ := Aside0.mk (below_step bw hb); have n1_ := Aside0.mk (hbox); have n2_ := Aside0.mk ((by rw [hg]; exact (below_size bw) : w.heap.size ≤ gb266)); have n3_ := Aside0.mk ((by rw [hg]; exact (below_size bw) : w.heap.size ≤ gb266)); clear HB; have HB := n0_; have BK266 := n1_; have GW266 := n2_; have GE266 := n3_; clear n0_ n1_ n2_ n3_; clear hb hbox hg) | ((with_reducible refine gate_callee (f := 100) rfl ?_); refine goesL_ (some 13) rfl rfl Tryd.func100 (by kernel_rfl) rfl #[.string a0] rfl am ?_; (with_reducible refine (path_split.calls (hG := by first | exact hG | exact Glob.below hG (by first | exact HB.out | (repeat (first | (with_reducible first | exact HB.out | apply below_alloc | apply pw_below_drewN | apply below_drew1 | refine below_set ?_ GE266.out | refine below_set ?_ GE273.out) | exact HB.out))) | exact Glob.drawn hG (by repeat (first | exact Drawn0.refl _ | apply Drawn0.step))) a0 t267 t268 t269 t270 _ A3.out).mono ?_); rintro e w8 ⟨v271, rfl, ho0, hb⟩; refine ⟨_, rfl, ?_⟩; have n0_ := Aside0.mk (Kd.R_lower ho0 (below_size bwS)); have n1_ := Aside0.mk (blk_below (g := gb266) (o := .cells #[.string (⟨#[]⟩ : ByteArray), .string (⟨#[]⟩ : ByteArray)] 51 (0, 0)) bk hb); have n2_ := Aside0.mk (below_step bwS hb); clear BK266; clear HB; have HO272 := n0_; have BK266 := n1_; have HB := n2_; clear n0_ n1_ n2_; (try clear hb); (try clear hb2); (try clear hk); (try clear hi); (try clear ho0)) | ((with_reducible refine gate_dst (N := 10) rfl ?_); refine box_event ?hg (N := 10) ?hd (cs := #[.string (⟨#[]⟩ : ByteArray), .string (⟨#[]⟩ : ByteArray)]) (t := 51) ?hr ?_; (case hd => rfl); (case hg => rfl); (case hr => first | (go_simp; done) | (go_simp; rfl)); intro gb273 hg w9 hbox hb; have n0_ := Aside0.mk (Kd.R_below (by (with_reducible repeat (first | apply Kd.R_alloc | apply Kd.R_drewN | apply Kd.R_drew)); exact HO272.out) hb); have n1_ := Aside0.mk (blk_below (g := gb266) (o := .cells #[.string (⟨#[]⟩ : ByteArray), .string (⟨#[]⟩ : ByteArray)] 51 (0, 0)) bk hb); have n2_ := Aside0.mk (below_step bwS hb); have n3_ := Aside0.mk (hbox); have n4_ := Aside0.mk ((by rw [hg]; exact (below_size bwS) : w.heap.size ≤ gb273)); have n5_ := Aside0.mk ((by rw [hg]; exact (below_size bwS) : w.heap.size ≤ gb273)); have n6_ := Aside0.mk ((by rw [hg]; exact Nat.ne_of_lt (blk_lt (g := gb266) (o := .cells #[.string (⟨#[]⟩ : ByteArray), .string (⟨#[]⟩ : ByteArray)] 51 (0, 0)) bk) : gb266 ≠ gb273)); have n7_ := Aside0.mk ((by rw [hg]; exact Nat.ne_of_gt (blk_lt (g := gb266) (o := .cells #[.string (⟨#[]⟩ : ByteArray), .string (⟨#[]⟩ : ByteArray)] 51 (0, 0)) bk) : gb273 ≠ gb266)); clear HO272; clear BK266; clear HB; have HO272 := n0_; have BK266 := n1_; have HB := n2_; have BK273 := n3_; have GW273 := n4_; have GE273 := n5_; have NB266_273 := n6_; have NB273_266 := n7_; clear n0_ n1_ n2_ n3_ n4_ n5_ n6_ n7_; clear hb hbox hg; have hnb10 := NB273_266.out; have hnc10 := NB266_273.out; have hcz11_0 : w9.cell? ⟨gb273, 0, none⟩ = some (.string (⟨#[]⟩ : ByteArray)) := (blk_cell BK273.out 0).trans rfl; have hcz11_1 : w9.cell? ⟨gb273, 1, none⟩ = some (.string (⟨#[]⟩ : ByteArray)) := (blk_cell BK273.out 1).trans rfl; have hfz11_0 := blk_frozen BK273.out 0; have hfz11_1 := blk_frozen BK273.out 1) | ((with_reducible refine gate_callee (f := 99) rfl ?_); refine goesL_ (some 25) rfl rfl Tryd.func99 (by kernel_rfl) rfl #[.string t267] rfl am ?_; (with_reducible refine (glyph_Fold.calls t267 t274 _ A5.out).mono ?_); rintro e w12 ⟨rfl, hb⟩; refine ⟨_, rfl, ?_⟩; have n0_ := Aside0.mk (Kd.R_below (by (with_reducible repeat (first | apply Kd.R_alloc | apply Kd.R_drewN | apply Kd.R_drew)); exact (Kd.R_mono (Kd.R_far (p := ⟨gb273, 1, none⟩) (Kd.R_far (p := ⟨gb273, 0, none⟩) (Kd.R_types HO272.out BK273.out (by decide)) (fun _ hk => hk.2) (.string (⟨#[112, 111, 115, 116, 109, 97, 115, 116, 101, 114]⟩ : ByteArray))) (fun _ hk => hk.2) (.string a1)) (fun _ h_ => h_.1))) hb); have n1_ := Aside0.mk (blk_below (g := gb266) (o := .cells #[.string (⟨#[]⟩ : ByteArray), .string (⟨#[]⟩ : ByteArray)] 51 (0, 0)) (by (with_reducible repeat (first | refine blk_drewN ?_ _ | refine blk_drew ?_ | refine blk_alloc ?_ _)); refine blk_far ?_ NB266_273.out _; (with_reducible repeat (first | refine blk_drewN ?_ _ | refine blk_drew ?_ | refine blk_alloc ?_ _)); refine blk_far ?_ NB266_273.out _; (with_reducible repeat (first | refine blk_drewN ?_ _ | refine blk_drew ?_ | refine blk_alloc ?_ _)); exact BK266.out) hb); have n2_ := Aside0.mk (blk_below (g := gb273) (o := .cells #[.string (⟨#[112, 111, 115, 116, 109, 97, 115, 116, 101, 114]⟩ : ByteArray), .string a1] 51 (0, 0)) (by (with_reducible repeat (first | refine blk_drewN ?_ _ | refine blk_drew ?_ | refine blk_alloc ?_ _)); refine blk_put (cs := #[.string (⟨#[112, 111, 115, 116, 109, 97, 115, 116, 101, 114]⟩ : ByteArray), .string (⟨#[]⟩ : ByteArray)]) ?_ 1 _ rfl; (with_reducible repeat (first | refine blk_drewN ?_ _ | refine blk_drew ?_ | refine blk_alloc ?_ _)); refine blk_put (cs := #[.string (⟨#[]⟩ : ByteArray), .string (⟨#[]⟩ : ByteArray)]) ?_ 0 _ rfl; (with_reducible repeat (first | refine blk_drewN ?_ _ | refine blk_drew ?_ | refine blk_alloc ?_ _)); exact BK273.out) hb); have n3_ := Aside0.mk (below_step (by repeat (first | (with_reducible first | exact HB.out | apply below_alloc | apply pw_below_drewN | apply below_drew1 | refine below_set ?_ GE266.out | refine below_set ?_ GE273.out) | exact HB.out)) hb); clear HO272; clear BK266; clear BK273; clear HB; have HO272 := n0_; have BK266 := n1_; have BK273 := n2_; have HB := n3_; clear n0_ n1_ n2_ n3_; (try clear hb); (try clear hb2); (try clear hk); (try clear hi)))
  (try simp only [Act.put, List.setIfInBounds_toArray, List.set_cons_zero, List.set_cons_succ])
  go_cut [8] (fun v8 wc => ∃ (kq : Nat) (x8_5 : Int) (x274000_5 : ByteArray) (x274001_5 : ByteArray), v8 = .int .i64 x8_5 ∧ Aside0 (path_To.j0 kq t268 x8_5 t270 x274000_5 x274001_5 = some (r1, r2, r3)) ∧ Aside0 (kq ≤ k) ∧ Aside0 (Kd.R Kd.string 9 wc w.heap.size (fun _ => True) v271 t268) ∧ Aside0 (wc.heap[gb266]? = some (.cells #[.string (⟨#[]⟩ : ByteArray), .string (⟨#[]⟩ : ByteArray)] 51 (0, 0))) ∧ Aside0 (wc.heap[gb273]? = some (.cells #[.string x274000_5, .string x274001_5] 51 (0, 0))) ∧ Aside0 (Below w.heap.size w wc))
  case first =>
   have H := HC6.out
   clear HC6
   by_cases c13 : t274.toList = ([112, 111, 115, 116, 109, 97, 115, 116, 101, 114] : List UInt8)
   ·rw [if_pos c13] at H
    have c13b0 : (t274.toList == ([112, 111, 115, 116, 109, 97, 115, 116, 101, 114] : List UInt8)) = true := beq_iff_eq.mpr c13
    have c13b1 : (t274.toList != ([112, 111, 115, 116, 109, 97, 115, 116, 101, 114] : List UInt8)) = false := bne_eq_false_iff_eq.mpr c13
    clear c13
    (first | rw [c13b0] | (simp only [i64_w, i32_w]; rw [c13b0]) | skip)
    have H' := Aside0.mk H
    clear H
    go_wp2
    go_meet
    case rel => exact ⟨_, (t269), ((⟨#[112, 111, 115, 116, 109, 97, 115, 116, 101, 114]⟩ : ByteArray)), (a1), cl, H', ⟨by first | omega | exact Nat.le_refl _⟩, ⟨by (with_reducible repeat (first | apply Kd.R_alloc | apply Kd.R_drewN | apply Kd.R_drew)); exact HO272.out⟩, ⟨by (with_reducible repeat (first | refine blk_drewN ?_ _ | refine blk_drew ?_ | refine blk_alloc ?_ _)); exact BK266.out⟩, ⟨by (with_reducible repeat (first | refine blk_drewN ?_ _ | refine blk_drew ?_ | refine blk_alloc ?_ _)); exact BK273.out⟩, ⟨by repeat (first | (with_reducible first | exact HB.out | apply below_alloc | apply pw_below_drewN | apply below_drew1 | refine below_set ?_ GE266.out | refine below_set ?_ GE273.out) | exact HB.out)⟩⟩
   ·rw [if_neg c13] at H
    have c13b0 : (t274.toList == ([112, 111, 115, 116, 109, 97, 115, 116, 101, 114] : List UInt8)) = false := beq_eq_false_iff_ne.mpr c13
    have c13b1 : (t274.toList != ([112, 111, 115, 116, 109, 97, 115, 116, 101, 114] : List UInt8)) = true := bne_iff_ne.mpr c13
    (first | rw [c13b0] | (simp only [i64_w, i32_w]; rw [c13b0]) | skip)
    replace H := Option.bind_eq_some_iff.mp H
    obtain ⟨⟨t275, t276, t277⟩, A140, H⟩ := H
    replace H : (path_To.j0 k t268 t277 t270 t275 t276) = some (r1, r2, r3) := H
    have A14 := Aside0.mk A140
    clear A140
    have H' := Aside0.mk H
    clear H
    go_wp2_with (first | ((with_reducible refine gate_callee (f := 101) rfl ?_); refine goesL_ (some 29) rfl rfl Tryd.func101 (by kernel_rfl) rfl #[.string t267] rfl am ?_; (with_reducible refine (addr_Strict.calls k t267 t275 t276 t277 _ A14.out).mono ?_); rintro e w15 ⟨rfl, hb⟩; refine ⟨_, rfl, ?_⟩; have n0_ := Aside0.mk (Kd.R_below (by (with_reducible repeat (first | apply Kd.R_alloc | apply Kd.R_drewN | apply Kd.R_drew)); exact HO272.out) hb); have n1_ := Aside0.mk (blk_below (g := gb266) (o := .cells #[.string (⟨#[]⟩ : ByteArray), .string (⟨#[]⟩ : ByteArray)] 51 (0, 0)) bk hb); have n2_ := Aside0.mk (blk_below (g := gb273) (o := .cells #[.string (⟨#[112, 111, 115, 116, 109, 97, 115, 116, 101, 114]⟩ : ByteArray), .string a1] 51 (0, 0)) bk hb); have n3_ := Aside0.mk (below_step (by repeat (first | (with_reducible first | exact HB.out | apply below_alloc | apply pw_below_drewN | apply below_drew1 | refine below_set ?_ GE266.out | refine below_set ?_ GE273.out) | exact HB.out)) hb); clear HO272; clear BK266; clear BK273; clear HB; have HO272 := n0_; have BK266 := n1_; have BK273 := n2_; have HB := n3_; clear n0_ n1_ n2_ n3_; (try clear hb); (try clear hb2); (try clear hk); (try clear hi); have hnb16 := NB273_266.out; have hnc16 := NB266_273.out; have hcz17_0 : w15.cell? ⟨gb273, 0, none⟩ = some (.string (⟨#[112, 111, 115, 116, 109, 97, 115, 116, 101, 114]⟩ : ByteArray)) := (blk_cell BK273.out 0).trans rfl; have hcz17_1 : w15.cell? ⟨gb273, 1, none⟩ = some (.string a1) := (blk_cell BK273.out 1).trans rfl; have hfz17_0 := blk_frozen BK273.out 0; have hfz17_1 := blk_frozen BK273.out 1))
    go_meet
    case rel => exact ⟨_, (t277), (t275), (t276), cl, H', ⟨by first | omega | exact Nat.le_refl _⟩, ⟨by (with_reducible repeat (first | apply Kd.R_alloc | apply Kd.R_drewN | apply Kd.R_drew)); exact Kd.R_mono (Kd.R_far (p := ⟨gb273, 1, none⟩) (Kd.R_far (p := ⟨gb273, 0, none⟩) (Kd.R_types HO272.out BK273.out (by decide)) (fun _ hk => hk.2) (.string t275)) (fun _ hk => hk.2) (.string t276)) (fun _ hk => trivial)⟩, ⟨by (with_reducible repeat (first | refine blk_drewN ?_ _ | refine blk_drew ?_ | refine blk_alloc ?_ _)); refine blk_far ?_ NB266_273.out _; (with_reducible repeat (first | refine blk_drewN ?_ _ | refine blk_drew ?_ | refine blk_alloc ?_ _)); refine blk_far ?_ NB266_273.out _; (with_reducible repeat (first | refine blk_drewN ?_ _ | refine blk_drew ?_ | refine blk_alloc ?_ _)); exact BK266.out⟩, ⟨by (with_reducible repeat (first | refine blk_drewN ?_ _ | refine blk_drew ?_ | refine blk_alloc ?_ _)); refine blk_put (cs := #[.string t275, .string a1]) ?_ 1 _ rfl; (with_reducible repeat (first | refine blk_drewN ?_ _ | refine blk_drew ?_ | refine blk_alloc ?_ _)); refine blk_put (cs := #[.string (⟨#[112, 111, 115, 116, 109, 97, 115, 116, 101, 114]⟩ : ByteArray), .string a1]) ?_ 0 _ rfl; (with_reducible repeat (first | refine blk_drewN ?_ _ | refine blk_drew ?_ | refine blk_alloc ?_ _)); exact BK273.out⟩, ⟨by repeat (first | (with_reducible first | exact HB.out | apply below_alloc | apply pw_below_drewN | apply below_drew1 | refine below_set ?_ GE266.out | refine below_set ?_ GE273.out) | exact HB.out)⟩⟩
  case rest =>
   clear HC6
   try clear c1
   try clear p2
   try clear c4
   try clear c4b0
   try clear c4b1
   try clear c5
   try clear c9
   try clear c10
   try clear c13
   try clear c13b0
   try clear c13b1
   try clear c16
   try clear hcz11_0
   try clear hcz11_1
   try clear hcz17_0
   try clear hcz17_1
   try clear hfz11_0
   try clear hfz11_1
   try clear hfz17_0
   try clear hfz17_1
   obtain ⟨kq, x8_5, x274000_5, x274001_5, rfl, HA, HJ5, HO_7, BK266, BK273, HB⟩ := hcut
   cases kq with
   | zero => exact absurd HA.out (by simp [path_To.j0])
   | succ kj5 =>
    have H := HA.out
    clear HA
    simp only [path_To.j0] at H
    by_cases c18 : x8_5 = 0
    ·rw [if_pos c18] at H
     have c18b0 : (x8_5 == 0) = true := beq_iff_eq.mpr c18
     have c18b1 : (x8_5 != 0) = false := bne_eq_false_iff_eq.mpr c18
     clear c18
     by_cases c19 : t270 = 0
     ·rw [if_pos c19] at H
      have c19b0 : (t270 == 0) = true := beq_iff_eq.mpr c19
      have c19b1 : (t270 != 0) = false := bne_eq_false_iff_eq.mpr c19
      clear c19
      by_cases c20 : (t268.length : Int) > 0
      ·rw [if_pos c20] at H
       have c20b0 : decide (0 < (t268.length : Int)) = true := decide_eq_true c20
       have c20b1 : decide (0 < t268.length) = true := decide_eq_true (by omega)
       clear c20
       simp only [Option.some.injEq, Prod.mk.injEq] at H
       obtain ⟨rfl, rfl, rfl⟩ := H
       obtain ⟨Ao21, co21, eo21⟩ := Kd.R_slice HO_7.out
       subst eo21
       have hnb22 := NB266_273.out
       have hnc22 := NB273_266.out
       have hcz23_0 : wc.cell? ⟨gb266, 0, none⟩ = some (.string (⟨#[]⟩ : ByteArray)) := (blk_cell BK266.out 0).trans rfl
       have hcz23_1 : wc.cell? ⟨gb266, 1, none⟩ = some (.string (⟨#[]⟩ : ByteArray)) := (blk_cell BK266.out 1).trans rfl
       have hfz23_0 := blk_frozen BK266.out 0
       have hfz23_1 := blk_frozen BK266.out 1
       go_wp2
       refine bodyPost_ret (results_ct rfl _ _ gb266 51 #[.string (⟨#[]⟩ : ByteArray), .string (⟨#[]⟩ : ByteArray)] (0, 0) _ rfl (by (with_reducible repeat (first | refine blk_drewN ?_ _ | refine blk_drew ?_ | refine blk_alloc ?_ _)); refine blk_put (cs := #[.string (⟨#[]⟩ : ByteArray), .string (⟨#[]⟩ : ByteArray)]) ?_ 1 _ rfl; (with_reducible repeat (first | refine blk_drewN ?_ _ | refine blk_drew ?_ | refine blk_alloc ?_ _)); refine blk_put (cs := #[.string (⟨#[]⟩ : ByteArray), .string (⟨#[]⟩ : ByteArray)]) ?_ 0 _ rfl; (with_reducible repeat (first | refine blk_drewN ?_ _ | refine blk_drew ?_ | refine blk_alloc ?_ _)); exact BK266.out) Tryd.underlying51 rfl (by kernel_rfl)) rfl ?_
       exact ⟨by first | rfl | (simp [errW_none, errW_some] <;> rfl) | (simp [*, errW_none, errW_some] <;> rfl), by repeat (first | (with_reducible first | exact HB.out | apply below_alloc | apply pw_below_drewN | apply below_drew1 | refine below_set ?_ GE266.out | refine below_set ?_ GE273.out) | exact HB.out)⟩
      ·rw [if_neg c20] at H
       have c20b0 : decide (0 < (t268.length : Int)) = false := decide_eq_false c20
       have c20b1 : decide (0 < t268.length) = false := decide_eq_false (by omega)
       clear c20
       simp only [Option.some.injEq, Prod.mk.injEq] at H
       obtain ⟨rfl, rfl, rfl⟩ := H
       obtain ⟨Ao24, co24, eo24⟩ := Kd.R_slice HO_7.out
       subst eo24
       have hnb25 := NB273_266.out
       have hnc25 := NB266_273.out
       have hcz26_0 : wc.cell? ⟨gb273, 0, none⟩ = some (.string x274000_5) := (blk_cell BK273.out 0).trans rfl
       have hcz26_1 : wc.cell? ⟨gb273, 1, none⟩ = some (.string x274001_5) := (blk_cell BK273.out 1).trans rfl
       have hfz26_0 := blk_frozen BK273.out 0
       have hfz26_1 := blk_frozen BK273.out 1
       have hcz27_0 : wc.cell? ⟨gb266, 0, none⟩ = some (.string (⟨#[]⟩ : ByteArray)) := (blk_cell BK266.out 0).trans rfl
       have hcz27_1 : wc.cell? ⟨gb266, 1, none⟩ = some (.string (⟨#[]⟩ : ByteArray)) := (blk_cell BK266.out 1).trans rfl
       have hfz27_0 := blk_frozen BK266.out 0
       have hfz27_1 := blk_frozen BK266.out 1
       go_wp2
       refine bodyPost_ret (results_ct rfl _ _ gb266 51 #[.string x274000_5, .string x274001_5] (0, 0) _ rfl (by (with_reducible repeat (first | refine blk_drewN ?_ _ | refine blk_drew ?_ | refine blk_alloc ?_ _)); refine blk_put (cs := #[.string x274000_5, .string (⟨#[]⟩ : ByteArray)]) ?_ 1 _ rfl; (with_reducible repeat (first | refine blk_drewN ?_ _ | refine blk_drew ?_ | refine blk_alloc ?_ _)); refine blk_put (cs := #[.string (⟨#[]⟩ : ByteArray), .string (⟨#[]⟩ : ByteArray)]) ?_ 0 _ rfl; (with_reducible repeat (first | refine blk_drewN ?_ _ | refine blk_drew ?_ | refine blk_alloc ?_ _)); exact BK266.out) Tryd.underlying51 rfl (by kernel_rfl)) rfl ?_
       exact ⟨by first | rfl | (simp [errW_none, errW_some] <;> rfl) | (simp [*, errW_none, errW_some] <;> rfl), by repeat (first | (with_reducible first | exact HB.out | apply below_alloc | apply pw_below_drewN | apply below_drew1 | refine below_set ?_ GE266.out | refine below_set ?_ GE273.out) | exact HB.out)⟩
     ·rw [if_neg c19] at H
      have c19b0 : (t270 == 0) = false := beq_eq_false_iff_ne.mpr c19
      have c19b1 : (t270 != 0) = true := bne_iff_ne.mpr c19
      simp only [Option.some.injEq, Prod.mk.injEq] at H
      obtain ⟨rfl, rfl, rfl⟩ := H
      have hnb28 := NB266_273.out
      have hnc28 := NB273_266.out
      have hcz29_0 : wc.cell? ⟨gb266, 0, none⟩ = some (.string (⟨#[]⟩ : ByteArray)) := (blk_cell BK266.out 0).trans rfl
      have hcz29_1 : wc.cell? ⟨gb266, 1, none⟩ = some (.string (⟨#[]⟩ : ByteArray)) := (blk_cell BK266.out 1).trans rfl
      have hfz29_0 := blk_frozen BK266.out 0
      have hfz29_1 := blk_frozen BK266.out 1
      go_wp2
      refine bodyPost_ret (results_ct rfl _ _ gb266 51 #[.string (⟨#[]⟩ : ByteArray), .string (⟨#[]⟩ : ByteArray)] (0, 0) _ rfl (by (with_reducible repeat (first | refine blk_drewN ?_ _ | refine blk_drew ?_ | refine blk_alloc ?_ _)); refine blk_put (cs := #[.string (⟨#[]⟩ : ByteArray), .string (⟨#[]⟩ : ByteArray)]) ?_ 1 _ rfl; (with_reducible repeat (first | refine blk_drewN ?_ _ | refine blk_drew ?_ | refine blk_alloc ?_ _)); refine blk_put (cs := #[.string (⟨#[]⟩ : ByteArray), .string (⟨#[]⟩ : ByteArray)]) ?_ 0 _ rfl; (with_reducible repeat (first | refine blk_drewN ?_ _ | refine blk_drew ?_ | refine blk_alloc ?_ _)); exact BK266.out) Tryd.underlying51 rfl (by kernel_rfl)) rfl ?_
      exact ⟨by first | rfl | (simp [errW_none, errW_some] <;> rfl) | (simp [*, errW_none, errW_some] <;> rfl), by repeat (first | (with_reducible first | exact HB.out | apply below_alloc | apply pw_below_drewN | apply below_drew1 | refine below_set ?_ GE266.out | refine below_set ?_ GE273.out) | exact HB.out)⟩
    ·rw [if_neg c18] at H
     have c18b0 : (x8_5 == 0) = false := beq_eq_false_iff_ne.mpr c18
     have c18b1 : (x8_5 != 0) = true := bne_iff_ne.mpr c18
     simp only [Option.some.injEq, Prod.mk.injEq] at H
     obtain ⟨rfl, rfl, rfl⟩ := H
     have hnb30 := NB266_273.out
     have hnc30 := NB273_266.out
     have hcz31_0 : wc.cell? ⟨gb266, 0, none⟩ = some (.string (⟨#[]⟩ : ByteArray)) := (blk_cell BK266.out 0).trans rfl
     have hcz31_1 : wc.cell? ⟨gb266, 1, none⟩ = some (.string (⟨#[]⟩ : ByteArray)) := (blk_cell BK266.out 1).trans rfl
     have hfz31_0 := blk_frozen BK266.out 0
     have hfz31_1 := blk_frozen BK266.out 1
     go_wp2
     refine bodyPost_ret (results_ct rfl _ _ gb266 51 #[.string (⟨#[]⟩ : ByteArray), .string (⟨#[]⟩ : ByteArray)] (0, 0) _ rfl (by (with_reducible repeat (first | refine blk_drewN ?_ _ | refine blk_drew ?_ | refine blk_alloc ?_ _)); refine blk_put (cs := #[.string (⟨#[]⟩ : ByteArray), .string (⟨#[]⟩ : ByteArray)]) ?_ 1 _ rfl; (with_reducible repeat (first | refine blk_drewN ?_ _ | refine blk_drew ?_ | refine blk_alloc ?_ _)); refine blk_put (cs := #[.string (⟨#[]⟩ : ByteArray), .string (⟨#[]⟩ : ByteArray)]) ?_ 0 _ rfl; (with_reducible repeat (first | refine blk_drewN ?_ _ | refine blk_drew ?_ | refine blk_alloc ?_ _)); exact BK266.out) Tryd.underlying51 rfl (by kernel_rfl)) rfl ?_
     exact ⟨by first | rfl | (simp [errW_none, errW_some] <;> rfl) | (simp [*, errW_none, errW_some] <;> rfl), by repeat (first | (with_reducible first | exact HB.out | apply below_alloc | apply pw_below_drewN | apply below_drew1 | refine below_set ?_ GE266.out | refine below_set ?_ GE273.out) | exact HB.out)⟩
 ·rw [if_neg c4] at H
  have c4b0 : (t269 == 0) = false := beq_eq_false_iff_ne.mpr c4
  have c4b1 : (t269 != 0) = true := bne_iff_ne.mpr c4
  simp only [Option.some.injEq, Prod.mk.injEq] at H
  obtain ⟨rfl, rfl, rfl⟩ := H
  go_enter Tryd.func50, Tryd.ntmps50
  go_wp2_with (first | ((with_reducible refine gate_dst (N := 4) rfl ?_); refine box_event ?hg (N := 4) ?hd (cs := #[.string (⟨#[]⟩ : ByteArray), .string (⟨#[]⟩ : ByteArray)]) (t := 51) ?hr ?_; (case hd => rfl); (case hg => rfl); (case hr => first | (go_simp; done) | (go_simp; rfl)); intro gb266 hg w32 hbox hb; have n0_ := Aside0.mk (below_step bw hb); have n1_ := Aside0.mk (hbox); have n2_ := Aside0.mk ((by rw [hg]; exact (below_size bw) : w.heap.size ≤ gb266)); have n3_ := Aside0.mk ((by rw [hg]; exact (below_size bw) : w.heap.size ≤ gb266)); clear HB; have HB := n0_; have BK266 := n1_; have GW266 := n2_; have GE266 := n3_; clear n0_ n1_ n2_ n3_; clear hb hbox hg) | ((with_reducible refine gate_callee (f := 100) rfl ?_); refine goesL_ (some 13) rfl rfl Tryd.func100 (by kernel_rfl) rfl #[.string a0] rfl am ?_; (with_reducible refine (path_split.calls (hG := by first | exact hG | exact Glob.below hG (by first | exact HB.out | (repeat (first | (with_reducible first | exact HB.out | apply below_alloc | apply pw_below_drewN | apply below_drew1 | refine below_set ?_ GE266.out | refine below_set ?_ GE273.out) | exact HB.out))) | exact Glob.drawn hG (by repeat (first | exact Drawn0.refl _ | apply Drawn0.step))) a0 t267 t268 t269 t270 _ A3.out).mono ?_); rintro e w33 ⟨v271, rfl, ho0, hb⟩; refine ⟨_, rfl, ?_⟩; have n0_ := Aside0.mk (Kd.R_lower ho0 (below_size bwS)); have n1_ := Aside0.mk (blk_below (g := gb266) (o := .cells #[.string (⟨#[]⟩ : ByteArray), .string (⟨#[]⟩ : ByteArray)] 51 (0, 0)) bk hb); have n2_ := Aside0.mk (below_step bwS hb); clear BK266; clear HB; have HO272 := n0_; have BK266 := n1_; have HB := n2_; clear n0_ n1_ n2_; (try clear hb); (try clear hb2); (try clear hk); (try clear hi); (try clear ho0); have hcz34_0 : w33.cell? ⟨gb266, 0, none⟩ = some (.string (⟨#[]⟩ : ByteArray)) := (blk_cell BK266.out 0).trans rfl; have hcz34_1 : w33.cell? ⟨gb266, 1, none⟩ = some (.string (⟨#[]⟩ : ByteArray)) := (blk_cell BK266.out 1).trans rfl; have hfz34_0 := blk_frozen BK266.out 0; have hfz34_1 := blk_frozen BK266.out 1))
  refine bodyPost_ret (results_ct rfl _ _ gb266 51 #[.string (⟨#[]⟩ : ByteArray), .string (⟨#[]⟩ : ByteArray)] (0, 0) _ rfl (by (with_reducible repeat (first | refine blk_drewN ?_ _ | refine blk_drew ?_ | refine blk_alloc ?_ _)); refine blk_put (cs := #[.string (⟨#[]⟩ : ByteArray), .string (⟨#[]⟩ : ByteArray)]) ?_ 1 _ rfl; (with_reducible repeat (first | refine blk_drewN ?_ _ | refine blk_drew ?_ | refine blk_alloc ?_ _)); refine blk_put (cs := #[.string (⟨#[]⟩ : ByteArray), .string (⟨#[]⟩ : ByteArray)]) ?_ 0 _ rfl; (with_reducible repeat (first | refine blk_drewN ?_ _ | refine blk_drew ?_ | refine blk_alloc ?_ _)); exact BK266.out) Tryd.underlying51 rfl (by kernel_rfl)) rfl ?_
  exact ⟨by first | rfl | (simp [errW_none, errW_some] <;> rfl) | (simp [*, errW_none, errW_some] <;> rfl), by repeat (first | (with_reducible first | exact HB.out | apply below_alloc | apply pw_below_drewN | apply below_drew1 | refine below_set ?_ GE266.out) | exact HB.out)⟩

end Go.Proofs.YtgaaogijfikfeaaDoor.Fn
