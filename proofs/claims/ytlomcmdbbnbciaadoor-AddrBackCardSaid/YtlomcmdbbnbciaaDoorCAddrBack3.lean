/- A part of the proof of this sentence: The law bulletinlaw13.AddrBack returns true for every input: any local part and domain are a right address just if it is read, as it is, of its text, and then it is so strictly too, and of its key but for capital letters; the tables of unicode/utf8 are as the program's text lays them. -/
import Derived.Test.YtlomcmdbbnbciaaDoorCAddrBack2
-- written by xprint.py of this session over the kit's printer; not trusted: Lean checks it
namespace Go.Proofs.YtlomcmdbbnbciaaDoor.Fn
open Go.RowKit Go.Proofs.YtlomcmdbbnbciaaDoorW.PrintWords Go.Proofs.YtlomcmdbbnbciaaDoorW.PrintLast Go.Proofs.YtlomcmdbbnbciaaDoorW.PrintMore
attribute [local go_sem] max2_int min2_int max_two min_two max_three min_three max_four min_four   -- for this text's walks alone
set_option linter.unusedVariables false
set_option linter.unusedSimpArgs false

attribute [local go_sem high] eqA32
/-! ### bulletinlaw13_AddrBack: function 7 -/
mutual
def bulletinlaw13_AddrBack.j0 : Nat → Bool → ByteArray → ByteArray → Option (Bool)
 | 0, _, _, _ => none
 | k + 1, x21, x480000, x480001 => if x21 = true then (some true) else ((bulletinlaw13_To.f x480000 x480001).bind fun bt481 => ((addr_Addr_Text.f k bt481.1 bt481.2).bind fun t484 => ((addr_Parse.f k t484).bind fun bt485 => ((addr_Addr_Right.f k bt481.1 bt481.2).bind fun t489 => (if bt485.2.2 = 0 then (bulletinlaw13_AddrBack.j1 k (t489 != (bt485.1.toList == bt481.1.toList && (bt485.2.1.toList == bt481.2.toList))) bt481.1 bt481.2) else (bulletinlaw13_AddrBack.j1 k (t489 != false) bt481.1 bt481.2))))))
def bulletinlaw13_AddrBack.j1 : Nat → Bool → ByteArray → ByteArray → Option (Bool)
 | 0, _, _, _ => none
 | k + 1, x39, x484000, x484001 => if x39 = true then (some false) else ((addr_Addr_Right.f k x484000 x484001).bind fun t490 => (if t490 = true then ((addr_Addr_Text.f k x484000 x484001).bind fun t491 => ((addr_Strict.f k t491).bind fun bt492 => ((addr_Addr_Key.f k x484000 x484001).bind fun t496 => ((addr_Parse.f k t496).bind fun bt497 => (if bt492.2.2 = 0 then (if (bt492.1.toList == x484000.toList && (bt492.2.1.toList == x484001.toList)) = true then (if bt497.2.2 = 0 then ((addr_Addr_Key.f k bt497.1 bt497.2.1).bind fun t501 => ((addr_Addr_Key.f k x484000 x484001).bind fun t502 => (if t501.toList = t502.toList then ((glyph_Fold.f x484000).bind fun t503 => (some (bt497.1.toList == t503.toList && (bt497.2.1.toList == x484001.toList)))) else (some false)))) else (some false)) else (some false)) else (some false)))))) else (some true)))
end
def bulletinlaw13_AddrBack.f (k : Nat) (a0_0 : ByteArray) (a0_1 : ByteArray) : Option (Bool) := (bulletinlaw13_works.f k).bind fun t480 => (if t480 = true then (if (a0_0.size : Int) > 500 then (bulletinlaw13_AddrBack.j0 k true a0_0 a0_1) else (bulletinlaw13_AddrBack.j0 k (decide ((a0_1.size : Int) > 500)) a0_0 a0_1)) else (some false))
def bulletinlaw13_AddrBack.T13 : Bool × List (List Nat × List Nat) := (true, [([], []), ([0], [0]), ([1], [1]), ([2], [2]), ([2], [2]), ([3, 4, 2], [2, 3, 4]), ([2, 5], [2, 5]), ([6, 2], [6]), ([7], [7]), ([8, 7], [7, 8]), ([7, 9], [7, 9]), ([10, 7], [10]), ([11], [11]), ([12, 11, 11], [11, 12]), ([11], [11]), ([14, 13, 11], [11, 14]), ([13, 15, 11], [11, 13, 15]), ([11, 16], [11, 16]), ([17, 15], [17]), ([18], [18]), ([18], [18]), ([20, 18], [18, 20]), ([21, 18, 18], [18, 21]), ([18], [18]), ([23, 18], [18, 23]), ([22, 24, 18], [18, 22, 24]), ([19, 25, 18], [18, 19, 25]), ([18, 26], [18, 26]), ([27, 22, 0, 1, 2, 3, 4, 5, 6, 7, 8, 9, 10, 11, 12, 13, 14, 15, 16, 17, 18, 19, 20, 21, 22, 23, 24, 25, 26, 27], [27])])
def bulletinlaw13_AddrBack.B13 : List Nat := [0, 1, 3, 7, 7, 31, 63, 127, 255, 511, 1023, 2047, 4095, 8191, 4095, 32767, 65535, 131071, 262143, 524287, 524287, 1572863, 3670015, 524287, 8912895, 33030143, 67108863, 134217727, 268435455]
theorem bulletinlaw13_AddrBack.tab13 : rtab .any (opsOf Tryd.f7 13) = bulletinlaw13_AddrBack.T13 := by kernel_rfl
theorem bulletinlaw13_AddrBack.bits13 : waitsOk bulletinlaw13_AddrBack.T13.2 bulletinlaw13_AddrBack.B13 = true := by kernel_rfl
set_option maxHeartbeats 8000000 in
set_option maxRecDepth 100000 in
theorem bulletinlaw13_AddrBack.calls (k : Nat) (a0_0 : ByteArray) (a0_1 : ByteArray) (r : Bool) (w : World) (h : bulletinlaw13_AddrBack.f k a0_0 a0_1 = some r) :
  Calls Tryd.prog 7 #[.agg #[.string a0_0, .string a0_1]] w fun e w' => e = .returned (.bool r) ∧ Below w.heap.size w w' := by
 have hu31 := Tryd.underlying31
 have hu32 := Tryd.underlying32
 have HB := Aside0.mk (Below.refl w.heap.size w)
 have H : ((bulletinlaw13_works.f k).bind fun t480 => (if t480 = true then (if (a0_0.size : Int) > 500 then (bulletinlaw13_AddrBack.j0 k true a0_0 a0_1) else (bulletinlaw13_AddrBack.j0 k (decide ((a0_1.size : Int) > 500)) a0_0 a0_1)) else (some false))) = some r := h
 clear h
 replace H := Option.bind_eq_some_iff.mp H
 obtain ⟨t480, A20, H⟩ := H
 replace H : (if t480 = true then (if (a0_0.size : Int) > 500 then (bulletinlaw13_AddrBack.j0 k true a0_0 a0_1) else (bulletinlaw13_AddrBack.j0 k (decide ((a0_1.size : Int) > 500)) a0_0 a0_1)) else (some false)) = some r := H
 have A2 := Aside0.mk A20
 clear A20
 by_cases c3 : t480 = true
 ·subst c3
  have H1 : (if (a0_0.size : Int) > 500 then (bulletinlaw13_AddrBack.j0 k true a0_0 a0_1) else (bulletinlaw13_AddrBack.j0 k (decide ((a0_1.size : Int) > 500)) a0_0 a0_1)) = some r := by rw [if_pos rfl] at H; exact H
  clear H
  have H := H1
  clear H1
  have HC4 := Aside0.mk H
  clear H
  go_enter Tryd.func7, Tryd.ntmps7
  go_upto_region 3 with (first | ((with_reducible refine gate_dst (N := 1) rfl ?_); (try (refine gate_guard (by rfl) ?_; dsimp only)); refine box_event ?hg (N := 1) ?hd (cs := #[.string a0_0, .string a0_1]) (t := 31) ?hr ?_; (case hd => rfl); (case hg => rfl); (case hr => first | (go_simp; done) | (go_simp; rfl)); intro gb479 hg w5 hbox hb; have n0_ := Aside0.mk (below_step bw hb); have n1_ := Aside0.mk (hbox); have n2_ := Aside0.mk ((by rw [hg]; exact (below_size bw) : w.heap.size ≤ gb479)); have n3_ := Aside0.mk ((by rw [hg]; exact (below_size bw) : w.heap.size ≤ gb479)); clear HB; have HB := n0_; have BK479 := n1_; have GW479 := n2_; have GE479 := n3_; clear n0_ n1_ n2_ n3_; clear hb hbox hg) | ((with_reducible refine gate_callee (f := 23) rfl ?_); refine goesL_ (some 10) rfl rfl Tryd.func23 (by kernel_rfl) rfl #[] rfl am ?_; (with_reducible refine (bulletinlaw13_works.calls k  true _ A2.out).mono ?_); rintro e w6 ⟨rfl, hb⟩; refine ⟨_, rfl, ?_⟩; have n0_ := Aside0.mk (blk_below (g := gb479) (o := .cells #[.string a0_0, .string a0_1] 31 (0, 0)) bk hb); have n1_ := Aside0.mk (below_step bwS hb); clear BK479; clear HB; have BK479 := n0_; have HB := n1_; clear n0_ n1_; (try clear hb); (try clear hb2); (try clear hk); (try clear hi)))
  (try simp only [Act.put, List.setIfInBounds_toArray, List.set_cons_zero, List.set_cons_succ])
  go_cut [21] (fun v21 wc => ∃ (kq : Nat) (x21_3 : Bool), v21 = .bool x21_3 ∧ Aside0 (bulletinlaw13_AddrBack.j0 kq x21_3 a0_0 a0_1 = some r) ∧ Aside0 (kq ≤ k) ∧ Aside0 (wc.heap[gb479]? = some (.cells #[.string a0_0, .string a0_1] 31 (0, 0))) ∧ Aside0 (Below w.heap.size w wc))
  case first =>
   have H := HC4.out
   clear HC4
   by_cases c7 : (a0_0.size : Int) > 500
   ·rw [if_pos c7] at H
    have c7b0 : decide (500 < (a0_0.size : Int)) = true := decide_eq_true c7
    have c7b1 : decide (500 < a0_0.size) = true := decide_eq_true (by omega)
    clear c7
    (first | rw [c7b0] | (simp only [i64_w, i32_w]; rw [c7b0]) | skip)
    have H' := Aside0.mk H
    clear H
    have hcz8_0 : w6.cell? ⟨gb479, 0, none⟩ = some (.string a0_0) := (blk_cell BK479.out 0).trans rfl
    have hcz8_1 : w6.cell? ⟨gb479, 1, none⟩ = some (.string a0_1) := (blk_cell BK479.out 1).trans rfl
    have hfz8_0 := blk_frozen BK479.out 0
    have hfz8_1 := blk_frozen BK479.out 1
    as_aux_lemma =>
     go_wp2
     go_meet
     case rel => exact ⟨_, (true), cl, H', ⟨by first | omega | exact Nat.le_refl _⟩, ⟨by (with_reducible repeat (first | refine blk_drewN ?_ _ | refine blk_drew ?_ | refine blk_alloc ?_ _)); exact BK479.out⟩, ⟨by repeat (first | (with_reducible first | exact HB.out | apply below_alloc | apply pw_below_drewN | apply below_drew1 | refine below_set ?_ GE479.out) | exact HB.out)⟩⟩
   ·rw [if_neg c7] at H
    have c7b0 : decide (500 < (a0_0.size : Int)) = false := decide_eq_false c7
    have c7b1 : decide (500 < a0_0.size) = false := decide_eq_false (by omega)
    clear c7
    (first | rw [c7b0] | (simp only [i64_w, i32_w]; rw [c7b0]) | skip)
    have H' := Aside0.mk H
    clear H
    have hcz9_0 : w6.cell? ⟨gb479, 0, none⟩ = some (.string a0_0) := (blk_cell BK479.out 0).trans rfl
    have hcz9_1 : w6.cell? ⟨gb479, 1, none⟩ = some (.string a0_1) := (blk_cell BK479.out 1).trans rfl
    have hfz9_0 := blk_frozen BK479.out 0
    have hfz9_1 := blk_frozen BK479.out 1
    as_aux_lemma =>
     go_wp2
     go_meet
     case rel => exact ⟨_, (decide ((a0_1.size : Int) > 500)), cl, H', ⟨by first | omega | exact Nat.le_refl _⟩, ⟨by (with_reducible repeat (first | refine blk_drewN ?_ _ | refine blk_drew ?_ | refine blk_alloc ?_ _)); exact BK479.out⟩, ⟨by repeat (first | (with_reducible first | exact HB.out | apply below_alloc | apply pw_below_drewN | apply below_drew1 | refine below_set ?_ GE479.out) | exact HB.out)⟩⟩
  case rest =>
   clear HC4
   try clear c2
   try clear p2
   try clear c3
   try clear c7
   try clear c7b0
   try clear c7b1
   try clear hcz8_0
   try clear hcz8_1
   try clear hcz9_0
   try clear hcz9_1
   try clear hfz8_0
   try clear hfz8_1
   try clear hfz9_0
   try clear hfz9_1
   obtain ⟨kq, x21_3, rfl, HA, HJ3, BK479, HB⟩ := hcut
   cases kq with
   | zero => exact absurd HA.out (by simp [bulletinlaw13_AddrBack.j0])
   | succ kj3 =>
    have H := HA.out
    clear HA
    simp only [bulletinlaw13_AddrBack.j0] at H
    by_cases c10 : x21_3 = true
    ·subst c10
     have H1 : (some true) = some r := by rw [if_pos rfl] at H; exact H
     clear H
     have H := H1
     clear H1
     obtain rfl := Option.some.inj H
     as_aux_lemma =>
      go_wp2
      go_ret
      exact ⟨by first | rfl | (simp [errW_none, errW_some] <;> rfl) | (simp [*, errW_none, errW_some] <;> rfl), by repeat (first | (with_reducible first | exact HB.out | apply below_alloc | apply pw_below_drewN | apply below_drew1 | refine below_set ?_ GE479.out) | exact HB.out)⟩
    ·replace c10 := Bool.eq_false_iff.mpr c10
     subst c10
     have H1 : ((bulletinlaw13_To.f a0_0 a0_1).bind fun bt481 => ((addr_Addr_Text.f kj3 bt481.1 bt481.2).bind fun t484 => ((addr_Parse.f kj3 t484).bind fun bt485 => ((addr_Addr_Right.f kj3 bt481.1 bt481.2).bind fun t489 => (if bt485.2.2 = 0 then (bulletinlaw13_AddrBack.j1 kj3 (t489 != (bt485.1.toList == bt481.1.toList && (bt485.2.1.toList == bt481.2.toList))) bt481.1 bt481.2) else (bulletinlaw13_AddrBack.j1 kj3 (t489 != false) bt481.1 bt481.2)))))) = some r := by rw [if_neg (show ¬ (false = true) by decide)] at H; exact H
     clear H
     have H := H1
     clear H1
     replace H := Option.bind_eq_some_iff.mp H
     obtain ⟨⟨t481, t482⟩, A110, H⟩ := H
     replace H : ((addr_Addr_Text.f kj3 t481 t482).bind fun t484 => ((addr_Parse.f kj3 t484).bind fun bt485 => ((addr_Addr_Right.f kj3 t481 t482).bind fun t489 => (if bt485.2.2 = 0 then (bulletinlaw13_AddrBack.j1 kj3 (t489 != (bt485.1.toList == t481.toList && (bt485.2.1.toList == t482.toList))) t481 t482) else (bulletinlaw13_AddrBack.j1 kj3 (t489 != false) t481 t482))))) = some r := H
     have A11 := Aside0.mk A110
     clear A110
     replace H := Option.bind_eq_some_iff.mp H
     obtain ⟨t484, A120, H⟩ := H
     replace H : ((addr_Parse.f kj3 t484).bind fun bt485 => ((addr_Addr_Right.f kj3 t481 t482).bind fun t489 => (if bt485.2.2 = 0 then (bulletinlaw13_AddrBack.j1 kj3 (t489 != (bt485.1.toList == t481.toList && (bt485.2.1.toList == t482.toList))) t481 t482) else (bulletinlaw13_AddrBack.j1 kj3 (t489 != false) t481 t482)))) = some r := H
     have A12 := Aside0.mk A120
     clear A120
     replace H := Option.bind_eq_some_iff.mp H
     obtain ⟨⟨t485, t486, t487⟩, A130, H⟩ := H
     replace H : ((addr_Addr_Right.f kj3 t481 t482).bind fun t489 => (if t487 = 0 then (bulletinlaw13_AddrBack.j1 kj3 (t489 != (t485.toList == t481.toList && (t486.toList == t482.toList))) t481 t482) else (bulletinlaw13_AddrBack.j1 kj3 (t489 != false) t481 t482))) = some r := H
     have A13 := Aside0.mk A130
     clear A130
     have HC14 := Aside0.mk H
     clear H
     have hcz15_0 : wc.cell? ⟨gb479, 0, none⟩ = some (.string a0_0) := (blk_cell BK479.out 0).trans rfl
     have hcz15_1 : wc.cell? ⟨gb479, 1, none⟩ = some (.string a0_1) := (blk_cell BK479.out 1).trans rfl
     have hfz15_0 := blk_frozen BK479.out 0
     have hfz15_1 := blk_frozen BK479.out 1
     go_upto_region 7 with (first | ((with_reducible refine gate_callee (f := 24) rfl ?_); refine goesL_ (some 23) rfl rfl Tryd.func24 (by kernel_rfl) rfl #[.agg #[.string a0_0, .string a0_1]] rfl am ?_; (with_reducible refine (bulletinlaw13_To.calls a0_0 a0_1 t481 t482 _ A11.out).mono ?_); rintro e w16 ⟨rfl, hb⟩; refine ⟨_, rfl, ?_⟩; have n0_ := Aside0.mk (blk_below (g := gb479) (o := .cells #[.string a0_0, .string a0_1] 31 (0, 0)) bk hb); have n1_ := Aside0.mk (below_step bwS hb); clear BK479; clear HB; have BK479 := n0_; have HB := n1_; clear n0_ n1_; (try clear hb); (try clear hb2); (try clear hk); (try clear hi)) | ((with_reducible refine gate_dst (N := 3) rfl ?_); (try (refine gate_guard (by rfl) ?_; dsimp only)); refine box_event ?hg (N := 3) ?hd (cs := #[.string (⟨#[]⟩ : ByteArray), .string (⟨#[]⟩ : ByteArray)]) (t := 32) ?hr ?_; (case hd => rfl); (case hg => rfl); (case hr => first | (go_simp; done) | (go_simp; rfl)); intro gb483 hg w17 hbox hb; have n0_ := Aside0.mk (blk_below (g := gb479) (o := .cells #[.string a0_0, .string a0_1] 31 (0, 0)) bk hb); have n1_ := Aside0.mk (below_step bwS hb); have n2_ := Aside0.mk (hbox); have n3_ := Aside0.mk ((by rw [hg]; exact (below_size bwS) : w.heap.size ≤ gb483)); have n4_ := Aside0.mk ((by rw [hg]; exact (below_size bwS) : w.heap.size ≤ gb483)); have n5_ := Aside0.mk ((by rw [hg]; exact Nat.ne_of_lt (blk_lt (g := gb479) (o := .cells #[.string a0_0, .string a0_1] 31 (0, 0)) bk) : gb479 ≠ gb483)); have n6_ := Aside0.mk ((by rw [hg]; exact Nat.ne_of_gt (blk_lt (g := gb479) (o := .cells #[.string a0_0, .string a0_1] 31 (0, 0)) bk) : gb483 ≠ gb479)); clear BK479; clear HB; have BK479 := n0_; have HB := n1_; have BK483 := n2_; have GW483 := n3_; have GE483 := n4_; have NB479_483 := n5_; have NB483_479 := n6_; clear n0_ n1_ n2_ n3_ n4_ n5_ n6_; clear hb hbox hg; have hnb18 := NB483_479.out; have hnc18 := NB479_483.out; have hcz19_0 : w17.cell? ⟨gb483, 0, none⟩ = some (.string (⟨#[]⟩ : ByteArray)) := (blk_cell BK483.out 0).trans rfl; have hcz19_1 : w17.cell? ⟨gb483, 1, none⟩ = some (.string (⟨#[]⟩ : ByteArray)) := (blk_cell BK483.out 1).trans rfl; have hfz19_0 := blk_frozen BK483.out 0; have hfz19_1 := blk_frozen BK483.out 1) | ((with_reducible refine gate_callee (f := 29) rfl ?_); refine goesL_ (some 26) rfl rfl Tryd.func29 (by kernel_rfl) rfl #[.agg #[.string t481, .string t482]] rfl am ?_; (with_reducible refine (addr_Addr_Text.calls kj3 t481 t482 t484 _ A12.out).mono ?_); rintro e w20 ⟨rfl, hb⟩; refine ⟨_, rfl, ?_⟩; have n0_ := Aside0.mk (blk_below (g := gb479) (o := .cells #[.string a0_0, .string a0_1] 31 (0, 0)) (by (with_reducible repeat (first | refine blk_drewN ?_ _ | refine blk_drew ?_ | refine blk_alloc ?_ _)); refine blk_far ?_ NB479_483.out _; (with_reducible repeat (first | refine blk_drewN ?_ _ | refine blk_drew ?_ | refine blk_alloc ?_ _)); refine blk_far ?_ NB479_483.out _; (with_reducible repeat (first | refine blk_drewN ?_ _ | refine blk_drew ?_ | refine blk_alloc ?_ _)); exact BK479.out) hb); have n1_ := Aside0.mk (blk_below (g := gb483) (o := .cells #[.string t481, .string t482] 32 (0, 0)) (by (with_reducible repeat (first | refine blk_drewN ?_ _ | refine blk_drew ?_ | refine blk_alloc ?_ _)); refine blk_put (cs := #[.string t481, .string (⟨#[]⟩ : ByteArray)]) ?_ 1 _ rfl; (with_reducible repeat (first | refine blk_drewN ?_ _ | refine blk_drew ?_ | refine blk_alloc ?_ _)); refine blk_put (cs := #[.string (⟨#[]⟩ : ByteArray), .string (⟨#[]⟩ : ByteArray)]) ?_ 0 _ rfl; (with_reducible repeat (first | refine blk_drewN ?_ _ | refine blk_drew ?_ | refine blk_alloc ?_ _)); exact BK483.out) hb); have n2_ := Aside0.mk (below_step (by repeat (first | (with_reducible first | exact HB.out | apply below_alloc | apply pw_below_drewN | apply below_drew1 | refine below_set ?_ GE479.out | refine below_set ?_ GE483.out) | exact HB.out)) hb); clear BK479; clear BK483; clear HB; have BK479 := n0_; have BK483 := n1_; have HB := n2_; clear n0_ n1_ n2_; (try clear hb); (try clear hb2); (try clear hk); (try clear hi)) | ((with_reducible refine gate_callee (f := 35) rfl ?_); refine goesL_ (some 27) rfl rfl Tryd.func35 (by kernel_rfl) rfl #[.string t484] rfl am ?_; (with_reducible refine (addr_Parse.calls kj3 t484 t485 t486 t487 _ A13.out).mono ?_); rintro e w21 ⟨rfl, hb⟩; refine ⟨_, rfl, ?_⟩; have n0_ := Aside0.mk (blk_below (g := gb479) (o := .cells #[.string a0_0, .string a0_1] 31 (0, 0)) bk hb); have n1_ := Aside0.mk (blk_below (g := gb483) (o := .cells #[.string t481, .string t482] 32 (0, 0)) bk hb); have n2_ := Aside0.mk (below_step (by repeat (first | (with_reducible first | exact HB.out | apply below_alloc | apply pw_below_drewN | apply below_drew1 | refine below_set ?_ GE479.out | refine below_set ?_ GE483.out) | exact HB.out)) hb); clear BK479; clear BK483; clear HB; have BK479 := n0_; have BK483 := n1_; have HB := n2_; clear n0_ n1_ n2_; (try clear hb); (try clear hb2); (try clear hk); (try clear hi)) | ((with_reducible refine gate_dst (N := 4) rfl ?_); (try (refine gate_guard (by rfl) ?_; dsimp only)); refine box_event ?hg (N := 4) ?hd (cs := #[.string (⟨#[]⟩ : ByteArray), .string (⟨#[]⟩ : ByteArray)]) (t := 32) ?hr ?_; (case hd => rfl); (case hg => rfl); (case hr => first | (go_simp; done) | (go_simp; rfl)); intro gb488 hg w22 hbox hb; have n0_ := Aside0.mk (blk_below (g := gb479) (o := .cells #[.string a0_0, .string a0_1] 31 (0, 0)) bk hb); have n1_ := Aside0.mk (blk_below (g := gb483) (o := .cells #[.string t481, .string t482] 32 (0, 0)) bk hb); have n2_ := Aside0.mk (below_step (by repeat (first | (with_reducible first | exact HB.out | apply below_alloc | apply pw_below_drewN | apply below_drew1 | refine below_set ?_ GE479.out | refine below_set ?_ GE483.out) | exact HB.out)) hb); have n3_ := Aside0.mk (hbox); have n4_ := Aside0.mk ((by rw [hg]; exact (below_size (by repeat (first | (with_reducible first | exact HB.out | apply below_alloc | apply pw_below_drewN | apply below_drew1 | refine below_set ?_ GE479.out | refine below_set ?_ GE483.out) | exact HB.out))) : w.heap.size ≤ gb488)); have n5_ := Aside0.mk ((by rw [hg]; exact (below_size (by repeat (first | (with_reducible first | exact HB.out | apply below_alloc | apply pw_below_drewN | apply below_drew1 | refine below_set ?_ GE479.out | refine below_set ?_ GE483.out) | exact HB.out))) : w.heap.size ≤ gb488)); have n6_ := Aside0.mk ((by rw [hg]; exact Nat.ne_of_lt (blk_lt (g := gb479) (o := .cells #[.string a0_0, .string a0_1] 31 (0, 0)) bk) : gb479 ≠ gb488)); have n7_ := Aside0.mk ((by rw [hg]; exact Nat.ne_of_gt (blk_lt (g := gb479) (o := .cells #[.string a0_0, .string a0_1] 31 (0, 0)) bk) : gb488 ≠ gb479)); have n8_ := Aside0.mk ((by rw [hg]; exact Nat.ne_of_lt (blk_lt (g := gb483) (o := .cells #[.string t481, .string t482] 32 (0, 0)) bk) : gb483 ≠ gb488)); have n9_ := Aside0.mk ((by rw [hg]; exact Nat.ne_of_gt (blk_lt (g := gb483) (o := .cells #[.string t481, .string t482] 32 (0, 0)) bk) : gb488 ≠ gb483)); clear BK479; clear BK483; clear HB; have BK479 := n0_; have BK483 := n1_; have HB := n2_; have BK488 := n3_; have GW488 := n4_; have GE488 := n5_; have NB479_488 := n6_; have NB488_479 := n7_; have NB483_488 := n8_; have NB488_483 := n9_; clear n0_ n1_ n2_ n3_ n4_ n5_ n6_ n7_ n8_ n9_; clear hb hbox hg; have hnb23 := NB488_479.out; have hnc23 := NB479_488.out; have hnb24 := NB488_483.out; have hnc24 := NB483_488.out; have hcz25_0 : w22.cell? ⟨gb488, 0, none⟩ = some (.string (⟨#[]⟩ : ByteArray)) := (blk_cell BK488.out 0).trans rfl; have hcz25_1 : w22.cell? ⟨gb488, 1, none⟩ = some (.string (⟨#[]⟩ : ByteArray)) := (blk_cell BK488.out 1).trans rfl; have hfz25_0 := blk_frozen BK488.out 0; have hfz25_1 := blk_frozen BK488.out 1))
     (try simp only [Act.put, List.setIfInBounds_toArray, List.set_cons_zero, List.set_cons_succ])
     go_cut [39] (fun v39 wc => ∃ (kq : Nat) (x39_13 : Bool), v39 = .bool x39_13 ∧ Aside0 (bulletinlaw13_AddrBack.j1 kq x39_13 t481 t482 = some r) ∧ Aside0 (kq ≤ kj3) ∧ Aside0 (wc.heap[gb479]? = some (.cells #[.string a0_0, .string a0_1] 31 (0, 0))) ∧ Aside0 (wc.heap[gb483]? = some (.cells #[.string t481, .string t482] 32 (0, 0))) ∧ Aside0 (wc.heap[gb488]? = some (.cells #[.string t485, .string t486] 32 (0, 0))) ∧ Aside0 (Below w.heap.size w wc))
     case first =>
      have H := HC14.out
      clear HC14
      replace H := Option.bind_eq_some_iff.mp H
      obtain ⟨t489, A260, H⟩ := H
      replace H : (if t487 = 0 then (bulletinlaw13_AddrBack.j1 kj3 (t489 != (t485.toList == t481.toList && (t486.toList == t482.toList))) t481 t482) else (bulletinlaw13_AddrBack.j1 kj3 (t489 != false) t481 t482)) = some r := H
      have A26 := Aside0.mk A260
      clear A260
      by_cases c27 : t487 = 0
      ·rw [if_pos c27] at H
       have c27b0 : (t487 == 0) = true := beq_iff_eq.mpr c27
       have c27b1 : (t487 != 0) = false := bne_eq_false_iff_eq.mpr c27
       clear c27
       (first | rw [c27b0] | (simp only [i64_w, i32_w]; rw [c27b0]) | skip)
       have H' := Aside0.mk H
       clear H
       have hnb28 := NB483_479.out
       have hnc28 := NB479_483.out
       have hnb29 := NB483_488.out
       have hnc29 := NB488_483.out
       have hcz30_0 : w22.cell? ⟨gb483, 0, none⟩ = some (.string t481) := (blk_cell BK483.out 0).trans rfl
       have hcz30_1 : w22.cell? ⟨gb483, 1, none⟩ = some (.string t482) := (blk_cell BK483.out 1).trans rfl
       have hfz30_0 := blk_frozen BK483.out 0
       have hfz30_1 := blk_frozen BK483.out 1
       as_aux_lemma =>
        go_wp2_with (first | ((with_reducible refine gate_callee (f := 25) rfl ?_); refine goesL_ (some 31) rfl rfl Tryd.func25 (by kernel_rfl) rfl #[.agg #[.string t481, .string t482]] rfl am ?_; (with_reducible refine (addr_Addr_Right.calls kj3 t481 t482 t489 _ A26.out).mono ?_); rintro e w31 ⟨rfl, hb⟩; refine ⟨_, rfl, ?_⟩; have n0_ := Aside0.mk (blk_below (g := gb479) (o := .cells #[.string a0_0, .string a0_1] 31 (0, 0)) (by (with_reducible repeat (first | refine blk_drewN ?_ _ | refine blk_drew ?_ | refine blk_alloc ?_ _)); refine blk_far ?_ NB479_488.out _; (with_reducible repeat (first | refine blk_drewN ?_ _ | refine blk_drew ?_ | refine blk_alloc ?_ _)); refine blk_far ?_ NB479_488.out _; (with_reducible repeat (first | refine blk_drewN ?_ _ | refine blk_drew ?_ | refine blk_alloc ?_ _)); exact BK479.out) hb); have n1_ := Aside0.mk (blk_below (g := gb483) (o := .cells #[.string t481, .string t482] 32 (0, 0)) (by (with_reducible repeat (first | refine blk_drewN ?_ _ | refine blk_drew ?_ | refine blk_alloc ?_ _)); refine blk_far ?_ NB483_488.out _; (with_reducible repeat (first | refine blk_drewN ?_ _ | refine blk_drew ?_ | refine blk_alloc ?_ _)); refine blk_far ?_ NB483_488.out _; (with_reducible repeat (first | refine blk_drewN ?_ _ | refine blk_drew ?_ | refine blk_alloc ?_ _)); exact BK483.out) hb); have n2_ := Aside0.mk (blk_below (g := gb488) (o := .cells #[.string t485, .string t486] 32 (0, 0)) (by (with_reducible repeat (first | refine blk_drewN ?_ _ | refine blk_drew ?_ | refine blk_alloc ?_ _)); refine blk_put (cs := #[.string t485, .string (⟨#[]⟩ : ByteArray)]) ?_ 1 _ rfl; (with_reducible repeat (first | refine blk_drewN ?_ _ | refine blk_drew ?_ | refine blk_alloc ?_ _)); refine blk_put (cs := #[.string (⟨#[]⟩ : ByteArray), .string (⟨#[]⟩ : ByteArray)]) ?_ 0 _ rfl; (with_reducible repeat (first | refine blk_drewN ?_ _ | refine blk_drew ?_ | refine blk_alloc ?_ _)); exact BK488.out) hb); have n3_ := Aside0.mk (below_step (by repeat (first | (with_reducible first | exact HB.out | apply below_alloc | apply pw_below_drewN | apply below_drew1 | refine below_set ?_ GE479.out | refine below_set ?_ GE483.out | refine below_set ?_ GE488.out) | exact HB.out)) hb); clear BK479; clear BK483; clear BK488; clear HB; have BK479 := n0_; have BK483 := n1_; have BK488 := n2_; have HB := n3_; clear n0_ n1_ n2_ n3_; (try clear hb); (try clear hb2); (try clear hk); (try clear hi); have hnb32 := NB488_479.out; have hnc32 := NB479_488.out; have hcz33_0 : w31.cell? ⟨gb488, 0, none⟩ = some (.string t485) := (blk_cell BK488.out 0).trans rfl; have hcz33_1 : w31.cell? ⟨gb488, 1, none⟩ = some (.string t486) := (blk_cell BK488.out 1).trans rfl; have hfz33_0 := blk_frozen BK488.out 0; have hfz33_1 := blk_frozen BK488.out 1; have hcz34_0 : w31.cell? ⟨gb483, 0, none⟩ = some (.string t481) := (blk_cell BK483.out 0).trans rfl; have hcz34_1 : w31.cell? ⟨gb483, 1, none⟩ = some (.string t482) := (blk_cell BK483.out 1).trans rfl; have hfz34_0 := blk_frozen BK483.out 0; have hfz34_1 := blk_frozen BK483.out 1))
        go_meet
        case rel => exact ⟨_, ((t489 != (t485.toList == t481.toList && (t486.toList == t482.toList)))), cl, H', ⟨by have := HJ3.out; first | omega | exact Nat.le_refl _⟩, ⟨by (with_reducible repeat (first | refine blk_drewN ?_ _ | refine blk_drew ?_ | refine blk_alloc ?_ _)); exact BK479.out⟩, ⟨by (with_reducible repeat (first | refine blk_drewN ?_ _ | refine blk_drew ?_ | refine blk_alloc ?_ _)); exact BK483.out⟩, ⟨by (with_reducible repeat (first | refine blk_drewN ?_ _ | refine blk_drew ?_ | refine blk_alloc ?_ _)); exact BK488.out⟩, ⟨by repeat (first | (with_reducible first | exact HB.out | apply below_alloc | apply pw_below_drewN | apply below_drew1 | refine below_set ?_ GE479.out | refine below_set ?_ GE483.out | refine below_set ?_ GE488.out) | exact HB.out)⟩⟩
      ·rw [if_neg c27] at H
       have c27b0 : (t487 == 0) = false := beq_eq_false_iff_ne.mpr c27
       have c27b1 : (t487 != 0) = true := bne_iff_ne.mpr c27
       (first | rw [c27b0] | (simp only [i64_w, i32_w]; rw [c27b0]) | skip)
       have H' := Aside0.mk H
       clear H
       have hnb35 := NB483_479.out
       have hnc35 := NB479_483.out
       have hnb36 := NB483_488.out
       have hnc36 := NB488_483.out
       have hcz37_0 : w22.cell? ⟨gb483, 0, none⟩ = some (.string t481) := (blk_cell BK483.out 0).trans rfl
       have hcz37_1 : w22.cell? ⟨gb483, 1, none⟩ = some (.string t482) := (blk_cell BK483.out 1).trans rfl
       have hfz37_0 := blk_frozen BK483.out 0
       have hfz37_1 := blk_frozen BK483.out 1
       as_aux_lemma =>
        go_wp2_with (first | ((with_reducible refine gate_callee (f := 25) rfl ?_); refine goesL_ (some 31) rfl rfl Tryd.func25 (by kernel_rfl) rfl #[.agg #[.string t481, .string t482]] rfl am ?_; (with_reducible refine (addr_Addr_Right.calls kj3 t481 t482 t489 _ A26.out).mono ?_); rintro e w38 ⟨rfl, hb⟩; refine ⟨_, rfl, ?_⟩; have n0_ := Aside0.mk (blk_below (g := gb479) (o := .cells #[.string a0_0, .string a0_1] 31 (0, 0)) (by (with_reducible repeat (first | refine blk_drewN ?_ _ | refine blk_drew ?_ | refine blk_alloc ?_ _)); refine blk_far ?_ NB479_488.out _; (with_reducible repeat (first | refine blk_drewN ?_ _ | refine blk_drew ?_ | refine blk_alloc ?_ _)); refine blk_far ?_ NB479_488.out _; (with_reducible repeat (first | refine blk_drewN ?_ _ | refine blk_drew ?_ | refine blk_alloc ?_ _)); exact BK479.out) hb); have n1_ := Aside0.mk (blk_below (g := gb483) (o := .cells #[.string t481, .string t482] 32 (0, 0)) (by (with_reducible repeat (first | refine blk_drewN ?_ _ | refine blk_drew ?_ | refine blk_alloc ?_ _)); refine blk_far ?_ NB483_488.out _; (with_reducible repeat (first | refine blk_drewN ?_ _ | refine blk_drew ?_ | refine blk_alloc ?_ _)); refine blk_far ?_ NB483_488.out _; (with_reducible repeat (first | refine blk_drewN ?_ _ | refine blk_drew ?_ | refine blk_alloc ?_ _)); exact BK483.out) hb); have n2_ := Aside0.mk (blk_below (g := gb488) (o := .cells #[.string t485, .string t486] 32 (0, 0)) (by (with_reducible repeat (first | refine blk_drewN ?_ _ | refine blk_drew ?_ | refine blk_alloc ?_ _)); refine blk_put (cs := #[.string t485, .string (⟨#[]⟩ : ByteArray)]) ?_ 1 _ rfl; (with_reducible repeat (first | refine blk_drewN ?_ _ | refine blk_drew ?_ | refine blk_alloc ?_ _)); refine blk_put (cs := #[.string (⟨#[]⟩ : ByteArray), .string (⟨#[]⟩ : ByteArray)]) ?_ 0 _ rfl; (with_reducible repeat (first | refine blk_drewN ?_ _ | refine blk_drew ?_ | refine blk_alloc ?_ _)); exact BK488.out) hb); have n3_ := Aside0.mk (below_step (by repeat (first | (with_reducible first | exact HB.out | apply below_alloc | apply pw_below_drewN | apply below_drew1 | refine below_set ?_ GE479.out | refine below_set ?_ GE483.out | refine below_set ?_ GE488.out) | exact HB.out)) hb); clear BK479; clear BK483; clear BK488; clear HB; have BK479 := n0_; have BK483 := n1_; have BK488 := n2_; have HB := n3_; clear n0_ n1_ n2_ n3_; (try clear hb); (try clear hb2); (try clear hk); (try clear hi)))
        go_meet
        case rel => exact ⟨_, ((t489 != false)), cl, H', ⟨by have := HJ3.out; first | omega | exact Nat.le_refl _⟩, ⟨by (with_reducible repeat (first | refine blk_drewN ?_ _ | refine blk_drew ?_ | refine blk_alloc ?_ _)); exact BK479.out⟩, ⟨by (with_reducible repeat (first | refine blk_drewN ?_ _ | refine blk_drew ?_ | refine blk_alloc ?_ _)); exact BK483.out⟩, ⟨by (with_reducible repeat (first | refine blk_drewN ?_ _ | refine blk_drew ?_ | refine blk_alloc ?_ _)); exact BK488.out⟩, ⟨by repeat (first | (with_reducible first | exact HB.out | apply below_alloc | apply pw_below_drewN | apply below_drew1 | refine below_set ?_ GE479.out | refine below_set ?_ GE483.out | refine below_set ?_ GE488.out) | exact HB.out)⟩⟩
     case rest =>
      clear HC14
      try clear c1
      try clear c2
      try clear p2
      try clear c3
      try clear c7
      try clear c7b0
      try clear c7b1
      try clear c10
      try clear c18
      try clear c23
      try clear c24
      try clear c25
      try clear c27
      try clear c27b0
      try clear c27b1
      try clear c28
      try clear c29
      try clear c32
      try clear c35
      try clear c36
      try clear hcz15_0
      try clear hcz15_1
      try clear hcz19_0
      try clear hcz19_1
      try clear hcz25_0
      try clear hcz25_1
      try clear hcz30_0
      try clear hcz30_1
      try clear hcz33_0
      try clear hcz33_1
      try clear hcz34_0
      try clear hcz34_1
      try clear hcz37_0
      try clear hcz37_1
      try clear hcz8_0
      try clear hcz8_1
      try clear hcz9_0
      try clear hcz9_1
      try clear hfz15_0
      try clear hfz15_1
      try clear hfz19_0
      try clear hfz19_1
      try clear hfz25_0
      try clear hfz25_1
      try clear hfz30_0
      try clear hfz30_1
      try clear hfz33_0
      try clear hfz33_1
      try clear hfz34_0
      try clear hfz34_1
      try clear hfz37_0
      try clear hfz37_1
      try clear hfz8_0
      try clear hfz8_1
      try clear hfz9_0
      try clear hfz9_1
      try clear p2
      obtain ⟨kq, x39_13, rfl, HA, HJ13, BK479, BK483, BK488, HB⟩ := hcut
      cases kq with
      | zero => exact absurd HA.out (by simp [bulletinlaw13_AddrBack.j1])
      | succ kj13 =>
       have H := HA.out
       clear HA
       simp only [bulletinlaw13_AddrBack.j1] at H
       by_cases c39 : x39_13 = true
       ·subst c39
        have H1 : (some false) = some r := by rw [if_pos rfl] at H; exact H
        clear H
        have H := H1
        clear H1
        obtain rfl := Option.some.inj H
        as_aux_lemma =>
         go_wp2
         go_ret
         exact ⟨by first | rfl | (simp [errW_none, errW_some] <;> rfl) | (simp [*, errW_none, errW_some] <;> rfl), by repeat (first | (with_reducible first | exact HB.out | apply below_alloc | apply pw_below_drewN | apply below_drew1 | refine below_set ?_ GE479.out | refine below_set ?_ GE483.out | refine below_set ?_ GE488.out) | exact HB.out)⟩
       ·replace c39 := Bool.eq_false_iff.mpr c39
        subst c39
        have H1 : ((addr_Addr_Right.f kj13 t481 t482).bind fun t490 => (if t490 = true then ((addr_Addr_Text.f kj13 t481 t482).bind fun t491 => ((addr_Strict.f kj13 t491).bind fun bt492 => ((addr_Addr_Key.f kj13 t481 t482).bind fun t496 => ((addr_Parse.f kj13 t496).bind fun bt497 => (if bt492.2.2 = 0 then (if (bt492.1.toList == t481.toList && (bt492.2.1.toList == t482.toList)) = true then (if bt497.2.2 = 0 then ((addr_Addr_Key.f kj13 bt497.1 bt497.2.1).bind fun t501 => ((addr_Addr_Key.f kj13 t481 t482).bind fun t502 => (if t501.toList = t502.toList then ((glyph_Fold.f t481).bind fun t503 => (some (bt497.1.toList == t503.toList && (bt497.2.1.toList == t482.toList)))) else (some false)))) else (some false)) else (some false)) else (some false)))))) else (some true))) = some r := by rw [if_neg (show ¬ (false = true) by decide)] at H; exact H
        clear H
        have H := H1
        clear H1
        replace H := Option.bind_eq_some_iff.mp H
        obtain ⟨t490, A400, H⟩ := H
        replace H : (if t490 = true then ((addr_Addr_Text.f kj13 t481 t482).bind fun t491 => ((addr_Strict.f kj13 t491).bind fun bt492 => ((addr_Addr_Key.f kj13 t481 t482).bind fun t496 => ((addr_Parse.f kj13 t496).bind fun bt497 => (if bt492.2.2 = 0 then (if (bt492.1.toList == t481.toList && (bt492.2.1.toList == t482.toList)) = true then (if bt497.2.2 = 0 then ((addr_Addr_Key.f kj13 bt497.1 bt497.2.1).bind fun t501 => ((addr_Addr_Key.f kj13 t481 t482).bind fun t502 => (if t501.toList = t502.toList then ((glyph_Fold.f t481).bind fun t503 => (some (bt497.1.toList == t503.toList && (bt497.2.1.toList == t482.toList)))) else (some false)))) else (some false)) else (some false)) else (some false)))))) else (some true)) = some r := H
        have A40 := Aside0.mk A400
        clear A400
        by_cases c41 : t490 = true
        ·subst c41
         have H1 : ((addr_Addr_Text.f kj13 t481 t482).bind fun t491 => ((addr_Strict.f kj13 t491).bind fun bt492 => ((addr_Addr_Key.f kj13 t481 t482).bind fun t496 => ((addr_Parse.f kj13 t496).bind fun bt497 => (if bt492.2.2 = 0 then (if (bt492.1.toList == t481.toList && (bt492.2.1.toList == t482.toList)) = true then (if bt497.2.2 = 0 then ((addr_Addr_Key.f kj13 bt497.1 bt497.2.1).bind fun t501 => ((addr_Addr_Key.f kj13 t481 t482).bind fun t502 => (if t501.toList = t502.toList then ((glyph_Fold.f t481).bind fun t503 => (some (bt497.1.toList == t503.toList && (bt497.2.1.toList == t482.toList)))) else (some false)))) else (some false)) else (some false)) else (some false)))))) = some r := by rw [if_pos rfl] at H; exact H
         clear H
         have H := H1
         clear H1
         replace H := Option.bind_eq_some_iff.mp H
         obtain ⟨t491, A420, H⟩ := H
         replace H : ((addr_Strict.f kj13 t491).bind fun bt492 => ((addr_Addr_Key.f kj13 t481 t482).bind fun t496 => ((addr_Parse.f kj13 t496).bind fun bt497 => (if bt492.2.2 = 0 then (if (bt492.1.toList == t481.toList && (bt492.2.1.toList == t482.toList)) = true then (if bt497.2.2 = 0 then ((addr_Addr_Key.f kj13 bt497.1 bt497.2.1).bind fun t501 => ((addr_Addr_Key.f kj13 t481 t482).bind fun t502 => (if t501.toList = t502.toList then ((glyph_Fold.f t481).bind fun t503 => (some (bt497.1.toList == t503.toList && (bt497.2.1.toList == t482.toList)))) else (some false)))) else (some false)) else (some false)) else (some false))))) = some r := H
         have A42 := Aside0.mk A420
         clear A420
         replace H := Option.bind_eq_some_iff.mp H
         obtain ⟨⟨t492, t493, t494⟩, A430, H⟩ := H
         replace H : ((addr_Addr_Key.f kj13 t481 t482).bind fun t496 => ((addr_Parse.f kj13 t496).bind fun bt497 => (if t494 = 0 then (if (t492.toList == t481.toList && (t493.toList == t482.toList)) = true then (if bt497.2.2 = 0 then ((addr_Addr_Key.f kj13 bt497.1 bt497.2.1).bind fun t501 => ((addr_Addr_Key.f kj13 t481 t482).bind fun t502 => (if t501.toList = t502.toList then ((glyph_Fold.f t481).bind fun t503 => (some (bt497.1.toList == t503.toList && (bt497.2.1.toList == t482.toList)))) else (some false)))) else (some false)) else (some false)) else (some false)))) = some r := H
         have A43 := Aside0.mk A430
         clear A430
         replace H := Option.bind_eq_some_iff.mp H
         obtain ⟨t496, A440, H⟩ := H
         replace H : ((addr_Parse.f kj13 t496).bind fun bt497 => (if t494 = 0 then (if (t492.toList == t481.toList && (t493.toList == t482.toList)) = true then (if bt497.2.2 = 0 then ((addr_Addr_Key.f kj13 bt497.1 bt497.2.1).bind fun t501 => ((addr_Addr_Key.f kj13 t481 t482).bind fun t502 => (if t501.toList = t502.toList then ((glyph_Fold.f t481).bind fun t503 => (some (bt497.1.toList == t503.toList && (bt497.2.1.toList == t482.toList)))) else (some false)))) else (some false)) else (some false)) else (some false))) = some r := H
         have A44 := Aside0.mk A440
         clear A440
         replace H := Option.bind_eq_some_iff.mp H
         obtain ⟨⟨t497, t498, t499⟩, A450, H⟩ := H
         replace H : (if t494 = 0 then (if (t492.toList == t481.toList && (t493.toList == t482.toList)) = true then (if t499 = 0 then ((addr_Addr_Key.f kj13 t497 t498).bind fun t501 => ((addr_Addr_Key.f kj13 t481 t482).bind fun t502 => (if t501.toList = t502.toList then ((glyph_Fold.f t481).bind fun t503 => (some (t497.toList == t503.toList && (t498.toList == t482.toList)))) else (some false)))) else (some false)) else (some false)) else (some false)) = some r := H
         have A45 := Aside0.mk A450
         clear A450
         by_cases c46 : t494 = 0
         ·rw [if_pos c46] at H
          have c46b0 : (t494 == 0) = true := beq_iff_eq.mpr c46
          have c46b1 : (t494 != 0) = false := bne_eq_false_iff_eq.mpr c46
          clear c46
          by_cases c47 : (t492.toList == t481.toList && (t493.toList == t482.toList)) = true
          ·rw [if_pos c47] at H
           have c47b0 : (t492.toList == t481.toList && (t493.toList == t482.toList)) = true := c47
           (try (have c47b1 : decide (t492.toList = t481.toList && (t493.toList == t482.toList)) = true := by simpa using c47))
           (try (have c47b2 : (t492.toList == t481.toList && (t493.toList == t482.toList)) = true := by simpa using c47))
           clear c47
           by_cases c48 : t499 = 0
           ·rw [if_pos c48] at H
            have c48b0 : (t499 == 0) = true := beq_iff_eq.mpr c48
            have c48b1 : (t499 != 0) = false := bne_eq_false_iff_eq.mpr c48
            clear c48
            replace H := Option.bind_eq_some_iff.mp H
            obtain ⟨t501, A490, H⟩ := H
            replace H : ((addr_Addr_Key.f kj13 t481 t482).bind fun t502 => (if t501.toList = t502.toList then ((glyph_Fold.f t481).bind fun t503 => (some (t497.toList == t503.toList && (t498.toList == t482.toList)))) else (some false))) = some r := H
            have A49 := Aside0.mk A490
            clear A490
            replace H := Option.bind_eq_some_iff.mp H
            obtain ⟨t502, A500, H⟩ := H
            replace H : (if t501.toList = t502.toList then ((glyph_Fold.f t481).bind fun t503 => (some (t497.toList == t503.toList && (t498.toList == t482.toList)))) else (some false)) = some r := H
            have A50 := Aside0.mk A500
            clear A500
            by_cases c51 : t501.toList = t502.toList
            ·rw [if_pos c51] at H
             have c51b0 : (t501.toList == t502.toList) = true := beq_iff_eq.mpr c51
             have c51b1 : (t501.toList != t502.toList) = false := bne_eq_false_iff_eq.mpr c51
             clear c51
             replace H := Option.bind_eq_some_iff.mp H
             obtain ⟨t503, A520, H⟩ := H
             replace H : (some (t497.toList == t503.toList && (t498.toList == t482.toList))) = some r := H
             have A52 := Aside0.mk A520
             clear A520
             obtain rfl := Option.some.inj H
             have hnb53 := NB483_479.out
             have hnc53 := NB479_483.out
             have hnb54 := NB483_488.out
             have hnc54 := NB488_483.out
             have hcz55_0 : wc.cell? ⟨gb483, 0, none⟩ = some (.string t481) := (blk_cell BK483.out 0).trans rfl
             have hcz55_1 : wc.cell? ⟨gb483, 1, none⟩ = some (.string t482) := (blk_cell BK483.out 1).trans rfl
             have hfz55_0 := blk_frozen BK483.out 0
             have hfz55_1 := blk_frozen BK483.out 1
             as_aux_lemma =>
              try go_wp2_with (first | ((with_reducible refine gate_callee (f := 25) rfl ?_); refine goesL_ (some 41) rfl rfl Tryd.func25 (by kernel_rfl) rfl #[.agg #[.string t481, .string t482]] rfl am ?_; (with_reducible refine (addr_Addr_Right.calls kj13 t481 t482 true _ A40.out).mono ?_); rintro e w56 ⟨rfl, hb⟩; refine ⟨_, rfl, ?_⟩; have n0_ := Aside0.mk (blk_below (g := gb479) (o := .cells #[.string a0_0, .string a0_1] 31 (0, 0)) bk hb); have n1_ := Aside0.mk (blk_below (g := gb483) (o := .cells #[.string t481, .string t482] 32 (0, 0)) bk hb); have n2_ := Aside0.mk (blk_below (g := gb488) (o := .cells #[.string t485, .string t486] 32 (0, 0)) bk hb); have n3_ := Aside0.mk (below_step (by repeat (first | (with_reducible first | exact HB.out | apply below_alloc | apply pw_below_drewN | apply below_drew1 | refine below_set ?_ GE479.out | refine below_set ?_ GE483.out | refine below_set ?_ GE488.out) | exact HB.out)) hb); clear BK479; clear BK483; clear BK488; clear HB; have BK479 := n0_; have BK483 := n1_; have BK488 := n2_; have HB := n3_; clear n0_ n1_ n2_ n3_; (try clear hb); (try clear hb2); (try clear hk); (try clear hi); have hcz57_0 : w56.cell? ⟨gb483, 0, none⟩ = some (.string t481) := (blk_cell BK483.out 0).trans rfl; have hcz57_1 : w56.cell? ⟨gb483, 1, none⟩ = some (.string t482) := (blk_cell BK483.out 1).trans rfl; have hfz57_0 := blk_frozen BK483.out 0; have hfz57_1 := blk_frozen BK483.out 1) | ((with_reducible refine gate_callee (f := 29) rfl ?_); refine goesL_ (some 45) rfl rfl Tryd.func29 (by kernel_rfl) rfl #[.agg #[.string t481, .string t482]] rfl am ?_; (with_reducible refine (addr_Addr_Text.calls kj13 t481 t482 t491 _ A42.out).mono ?_); rintro e w58 ⟨rfl, hb⟩; refine ⟨_, rfl, ?_⟩; have n0_ := Aside0.mk (blk_below (g := gb479) (o := .cells #[.string a0_0, .string a0_1] 31 (0, 0)) bk hb); have n1_ := Aside0.mk (blk_below (g := gb483) (o := .cells #[.string t481, .string t482] 32 (0, 0)) bk hb); have n2_ := Aside0.mk (blk_below (g := gb488) (o := .cells #[.string t485, .string t486] 32 (0, 0)) bk hb); have n3_ := Aside0.mk (below_step (by repeat (first | (with_reducible first | exact HB.out | apply below_alloc | apply pw_below_drewN | apply below_drew1 | refine below_set ?_ GE479.out | refine below_set ?_ GE483.out | refine below_set ?_ GE488.out) | exact HB.out)) hb); clear BK479; clear BK483; clear BK488; clear HB; have BK479 := n0_; have BK483 := n1_; have BK488 := n2_; have HB := n3_; clear n0_ n1_ n2_ n3_; (try clear hb); (try clear hb2); (try clear hk); (try clear hi)) | ((with_reducible refine gate_callee (f := 36) rfl ?_); refine goesL_ (some 46) rfl rfl Tryd.func36 (by kernel_rfl) rfl #[.string t491] rfl am ?_; (with_reducible refine (addr_Strict.calls kj13 t491 t492 t493 t494 _ A43.out).mono ?_); rintro e w59 ⟨rfl, hb⟩; refine ⟨_, rfl, ?_⟩; have n0_ := Aside0.mk (blk_below (g := gb479) (o := .cells #[.string a0_0, .string a0_1] 31 (0, 0)) bk hb); have n1_ := Aside0.mk (blk_below (g := gb483) (o := .cells #[.string t481, .string t482] 32 (0, 0)) bk hb); have n2_ := Aside0.mk (blk_below (g := gb488) (o := .cells #[.string t485, .string t486] 32 (0, 0)) bk hb); have n3_ := Aside0.mk (below_step (by repeat (first | (with_reducible first | exact HB.out | apply below_alloc | apply pw_below_drewN | apply below_drew1 | refine below_set ?_ GE479.out | refine below_set ?_ GE483.out | refine below_set ?_ GE488.out) | exact HB.out)) hb); clear BK479; clear BK483; clear BK488; clear HB; have BK479 := n0_; have BK483 := n1_; have BK488 := n2_; have HB := n3_; clear n0_ n1_ n2_ n3_; (try clear hb); (try clear hb2); (try clear hk); (try clear hi)) | ((with_reducible refine gate_dst (N := 6) rfl ?_); (try (refine gate_guard (by rfl) ?_; dsimp only)); refine box_event ?hg (N := 6) ?hd (cs := #[.string (⟨#[]⟩ : ByteArray), .string (⟨#[]⟩ : ByteArray)]) (t := 32) ?hr ?_; (case hd => rfl); (case hg => rfl); (case hr => first | (go_simp; done) | (go_simp; rfl)); intro gb495 hg w60 hbox hb; have n0_ := Aside0.mk (blk_below (g := gb479) (o := .cells #[.string a0_0, .string a0_1] 31 (0, 0)) bk hb); have n1_ := Aside0.mk (blk_below (g := gb483) (o := .cells #[.string t481, .string t482] 32 (0, 0)) bk hb); have n2_ := Aside0.mk (blk_below (g := gb488) (o := .cells #[.string t485, .string t486] 32 (0, 0)) bk hb); have n3_ := Aside0.mk (below_step (by repeat (first | (with_reducible first | exact HB.out | apply below_alloc | apply pw_below_drewN | apply below_drew1 | refine below_set ?_ GE479.out | refine below_set ?_ GE483.out | refine below_set ?_ GE488.out) | exact HB.out)) hb); have n4_ := Aside0.mk (hbox); have n5_ := Aside0.mk ((by rw [hg]; exact (below_size (by repeat (first | (with_reducible first | exact HB.out | apply below_alloc | apply pw_below_drewN | apply below_drew1 | refine below_set ?_ GE479.out | refine below_set ?_ GE483.out | refine below_set ?_ GE488.out) | exact HB.out))) : w.heap.size ≤ gb495)); have n6_ := Aside0.mk ((by rw [hg]; exact (below_size (by repeat (first | (with_reducible first | exact HB.out | apply below_alloc | apply pw_below_drewN | apply below_drew1 | refine below_set ?_ GE479.out | refine below_set ?_ GE483.out | refine below_set ?_ GE488.out) | exact HB.out))) : w.heap.size ≤ gb495)); have n7_ := Aside0.mk ((by rw [hg]; exact Nat.ne_of_lt (blk_lt (g := gb479) (o := .cells #[.string a0_0, .string a0_1] 31 (0, 0)) bk) : gb479 ≠ gb495)); have n8_ := Aside0.mk ((by rw [hg]; exact Nat.ne_of_gt (blk_lt (g := gb479) (o := .cells #[.string a0_0, .string a0_1] 31 (0, 0)) bk) : gb495 ≠ gb479)); have n9_ := Aside0.mk ((by rw [hg]; exact Nat.ne_of_lt (blk_lt (g := gb483) (o := .cells #[.string t481, .string t482] 32 (0, 0)) bk) : gb483 ≠ gb495)); have n10_ := Aside0.mk ((by rw [hg]; exact Nat.ne_of_gt (blk_lt (g := gb483) (o := .cells #[.string t481, .string t482] 32 (0, 0)) bk) : gb495 ≠ gb483)); have n11_ := Aside0.mk ((by rw [hg]; exact Nat.ne_of_lt (blk_lt (g := gb488) (o := .cells #[.string t485, .string t486] 32 (0, 0)) bk) : gb488 ≠ gb495)); have n12_ := Aside0.mk ((by rw [hg]; exact Nat.ne_of_gt (blk_lt (g := gb488) (o := .cells #[.string t485, .string t486] 32 (0, 0)) bk) : gb495 ≠ gb488)); clear BK479; clear BK483; clear BK488; clear HB; have BK479 := n0_; have BK483 := n1_; have BK488 := n2_; have HB := n3_; have BK495 := n4_; have GW495 := n5_; have GE495 := n6_; have NB479_495 := n7_; have NB495_479 := n8_; have NB483_495 := n9_; have NB495_483 := n10_; have NB488_495 := n11_; have NB495_488 := n12_; clear n0_ n1_ n2_ n3_ n4_ n5_ n6_ n7_ n8_ n9_ n10_ n11_ n12_; clear hb hbox hg; have hnb61 := NB495_479.out; have hnc61 := NB479_495.out; have hnb62 := NB495_483.out; have hnc62 := NB483_495.out; have hnb63 := NB495_488.out; have hnc63 := NB488_495.out; have hcz64_0 : w60.cell? ⟨gb495, 0, none⟩ = some (.string (⟨#[]⟩ : ByteArray)) := (blk_cell BK495.out 0).trans rfl; have hcz64_1 : w60.cell? ⟨gb495, 1, none⟩ = some (.string (⟨#[]⟩ : ByteArray)) := (blk_cell BK495.out 1).trans rfl; have hfz64_0 := blk_frozen BK495.out 0; have hfz64_1 := blk_frozen BK495.out 1; have hcz65_0 : w60.cell? ⟨gb483, 0, none⟩ = some (.string t481) := (blk_cell BK483.out 0).trans rfl; have hcz65_1 : w60.cell? ⟨gb483, 1, none⟩ = some (.string t482) := (blk_cell BK483.out 1).trans rfl; have hfz65_0 := blk_frozen BK483.out 0; have hfz65_1 := blk_frozen BK483.out 1) | ((with_reducible refine gate_callee (f := 26) rfl ?_); refine goesL_ (some 51) rfl rfl Tryd.func26 (by kernel_rfl) rfl #[.agg #[.string t481, .string t482]] rfl am ?_; (with_reducible refine (addr_Addr_Key.calls kj13 t481 t482 t496 _ A44.out).mono ?_); rintro e w66 ⟨rfl, hb⟩; refine ⟨_, rfl, ?_⟩; have n0_ := Aside0.mk (blk_below (g := gb479) (o := .cells #[.string a0_0, .string a0_1] 31 (0, 0)) (by (with_reducible repeat (first | refine blk_drewN ?_ _ | refine blk_drew ?_ | refine blk_alloc ?_ _)); refine blk_far ?_ NB479_495.out _; (with_reducible repeat (first | refine blk_drewN ?_ _ | refine blk_drew ?_ | refine blk_alloc ?_ _)); refine blk_far ?_ NB479_495.out _; (with_reducible repeat (first | refine blk_drewN ?_ _ | refine blk_drew ?_ | refine blk_alloc ?_ _)); exact BK479.out) hb); have n1_ := Aside0.mk (blk_below (g := gb483) (o := .cells #[.string t481, .string t482] 32 (0, 0)) (by (with_reducible repeat (first | refine blk_drewN ?_ _ | refine blk_drew ?_ | refine blk_alloc ?_ _)); refine blk_far ?_ NB483_495.out _; (with_reducible repeat (first | refine blk_drewN ?_ _ | refine blk_drew ?_ | refine blk_alloc ?_ _)); refine blk_far ?_ NB483_495.out _; (with_reducible repeat (first | refine blk_drewN ?_ _ | refine blk_drew ?_ | refine blk_alloc ?_ _)); exact BK483.out) hb); have n2_ := Aside0.mk (blk_below (g := gb488) (o := .cells #[.string t485, .string t486] 32 (0, 0)) (by (with_reducible repeat (first | refine blk_drewN ?_ _ | refine blk_drew ?_ | refine blk_alloc ?_ _)); refine blk_far ?_ NB488_495.out _; (with_reducible repeat (first | refine blk_drewN ?_ _ | refine blk_drew ?_ | refine blk_alloc ?_ _)); refine blk_far ?_ NB488_495.out _; (with_reducible repeat (first | refine blk_drewN ?_ _ | refine blk_drew ?_ | refine blk_alloc ?_ _)); exact BK488.out) hb); have n3_ := Aside0.mk (blk_below (g := gb495) (o := .cells #[.string t492, .string t493] 32 (0, 0)) (by (with_reducible repeat (first | refine blk_drewN ?_ _ | refine blk_drew ?_ | refine blk_alloc ?_ _)); refine blk_put (cs := #[.string t492, .string (⟨#[]⟩ : ByteArray)]) ?_ 1 _ rfl; (with_reducible repeat (first | refine blk_drewN ?_ _ | refine blk_drew ?_ | refine blk_alloc ?_ _)); refine blk_put (cs := #[.string (⟨#[]⟩ : ByteArray), .string (⟨#[]⟩ : ByteArray)]) ?_ 0 _ rfl; (with_reducible repeat (first | refine blk_drewN ?_ _ | refine blk_drew ?_ | refine blk_alloc ?_ _)); exact BK495.out) hb); have n4_ := Aside0.mk (below_step (by repeat (first | (with_reducible first | exact HB.out | apply below_alloc | apply pw_below_drewN | apply below_drew1 | refine below_set ?_ GE479.out | refine below_set ?_ GE483.out | refine below_set ?_ GE488.out | refine below_set ?_ GE495.out) | exact HB.out)) hb); clear BK479; clear BK483; clear BK488; clear BK495; clear HB; have BK479 := n0_; have BK483 := n1_; have BK488 := n2_; have BK495 := n3_; have HB := n4_; clear n0_ n1_ n2_ n3_ n4_; (try clear hb); (try clear hb2); (try clear hk); (try clear hi)) | ((with_reducible refine gate_callee (f := 35) rfl ?_); refine goesL_ (some 52) rfl rfl Tryd.func35 (by kernel_rfl) rfl #[.string t496] rfl am ?_; (with_reducible refine (addr_Parse.calls kj13 t496 t497 t498 t499 _ A45.out).mono ?_); rintro e w67 ⟨rfl, hb⟩; refine ⟨_, rfl, ?_⟩; have n0_ := Aside0.mk (blk_below (g := gb479) (o := .cells #[.string a0_0, .string a0_1] 31 (0, 0)) bk hb); have n1_ := Aside0.mk (blk_below (g := gb483) (o := .cells #[.string t481, .string t482] 32 (0, 0)) bk hb); have n2_ := Aside0.mk (blk_below (g := gb488) (o := .cells #[.string t485, .string t486] 32 (0, 0)) bk hb); have n3_ := Aside0.mk (blk_below (g := gb495) (o := .cells #[.string t492, .string t493] 32 (0, 0)) bk hb); have n4_ := Aside0.mk (below_step (by repeat (first | (with_reducible first | exact HB.out | apply below_alloc | apply pw_below_drewN | apply below_drew1 | refine below_set ?_ GE479.out | refine below_set ?_ GE483.out | refine below_set ?_ GE488.out | refine below_set ?_ GE495.out) | exact HB.out)) hb); clear BK479; clear BK483; clear BK488; clear BK495; clear HB; have BK479 := n0_; have BK483 := n1_; have BK488 := n2_; have BK495 := n3_; have HB := n4_; clear n0_ n1_ n2_ n3_ n4_; (try clear hb); (try clear hb2); (try clear hk); (try clear hi)) | ((with_reducible refine gate_dst (N := 8) rfl ?_); (try (refine gate_guard (by rfl) ?_; dsimp only)); refine box_event ?hg (N := 8) ?hd (cs := #[.string (⟨#[]⟩ : ByteArray), .string (⟨#[]⟩ : ByteArray)]) (t := 32) ?hr ?_; (case hd => rfl); (case hg => rfl); (case hr => first | (go_simp; done) | (go_simp; rfl)); intro gb500 hg w68 hbox hb; have n0_ := Aside0.mk (blk_below (g := gb479) (o := .cells #[.string a0_0, .string a0_1] 31 (0, 0)) bk hb); have n1_ := Aside0.mk (blk_below (g := gb483) (o := .cells #[.string t481, .string t482] 32 (0, 0)) bk hb); have n2_ := Aside0.mk (blk_below (g := gb488) (o := .cells #[.string t485, .string t486] 32 (0, 0)) bk hb); have n3_ := Aside0.mk (blk_below (g := gb495) (o := .cells #[.string t492, .string t493] 32 (0, 0)) bk hb); have n4_ := Aside0.mk (below_step (by repeat (first | (with_reducible first | exact HB.out | apply below_alloc | apply pw_below_drewN | apply below_drew1 | refine below_set ?_ GE479.out | refine below_set ?_ GE483.out | refine below_set ?_ GE488.out | refine below_set ?_ GE495.out) | exact HB.out)) hb); have n5_ := Aside0.mk (hbox); have n6_ := Aside0.mk ((by rw [hg]; exact (below_size (by repeat (first | (with_reducible first | exact HB.out | apply below_alloc | apply pw_below_drewN | apply below_drew1 | refine below_set ?_ GE479.out | refine below_set ?_ GE483.out | refine below_set ?_ GE488.out | refine below_set ?_ GE495.out) | exact HB.out))) : w.heap.size ≤ gb500)); have n7_ := Aside0.mk ((by rw [hg]; exact (below_size (by repeat (first | (with_reducible first | exact HB.out | apply below_alloc | apply pw_below_drewN | apply below_drew1 | refine below_set ?_ GE479.out | refine below_set ?_ GE483.out | refine below_set ?_ GE488.out | refine below_set ?_ GE495.out) | exact HB.out))) : w.heap.size ≤ gb500)); have n8_ := Aside0.mk ((by rw [hg]; exact Nat.ne_of_lt (blk_lt (g := gb479) (o := .cells #[.string a0_0, .string a0_1] 31 (0, 0)) bk) : gb479 ≠ gb500)); have n9_ := Aside0.mk ((by rw [hg]; exact Nat.ne_of_gt (blk_lt (g := gb479) (o := .cells #[.string a0_0, .string a0_1] 31 (0, 0)) bk) : gb500 ≠ gb479)); have n10_ := Aside0.mk ((by rw [hg]; exact Nat.ne_of_lt (blk_lt (g := gb483) (o := .cells #[.string t481, .string t482] 32 (0, 0)) bk) : gb483 ≠ gb500)); have n11_ := Aside0.mk ((by rw [hg]; exact Nat.ne_of_gt (blk_lt (g := gb483) (o := .cells #[.string t481, .string t482] 32 (0, 0)) bk) : gb500 ≠ gb483)); have n12_ := Aside0.mk ((by rw [hg]; exact Nat.ne_of_lt (blk_lt (g := gb488) (o := .cells #[.string t485, .string t486] 32 (0, 0)) bk) : gb488 ≠ gb500)); have n13_ := Aside0.mk ((by rw [hg]; exact Nat.ne_of_gt (blk_lt (g := gb488) (o := .cells #[.string t485, .string t486] 32 (0, 0)) bk) : gb500 ≠ gb488)); have n14_ := Aside0.mk ((by rw [hg]; exact Nat.ne_of_lt (blk_lt (g := gb495) (o := .cells #[.string t492, .string t493] 32 (0, 0)) bk) : gb495 ≠ gb500)); have n15_ := Aside0.mk ((by rw [hg]; exact Nat.ne_of_gt (blk_lt (g := gb495) (o := .cells #[.string t492, .string t493] 32 (0, 0)) bk) : gb500 ≠ gb495)); clear BK479; clear BK483; clear BK488; clear BK495; clear HB; have BK479 := n0_; have BK483 := n1_; have BK488 := n2_; have BK495 := n3_; have HB := n4_; have BK500 := n5_; have GW500 := n6_; have GE500 := n7_; have NB479_500 := n8_; have NB500_479 := n9_; have NB483_500 := n10_; have NB500_483 := n11_; have NB488_500 := n12_; have NB500_488 := n13_; have NB495_500 := n14_; have NB500_495 := n15_; clear n0_ n1_ n2_ n3_ n4_ n5_ n6_ n7_ n8_ n9_ n10_ n11_ n12_ n13_ n14_ n15_; clear hb hbox hg; have hnb69 := NB500_479.out; have hnc69 := NB479_500.out; have hnb70 := NB500_483.out; have hnc70 := NB483_500.out; have hnb71 := NB500_488.out; have hnc71 := NB488_500.out; have hnb72 := NB500_495.out; have hnc72 := NB495_500.out; have hcz73_0 : w68.cell? ⟨gb500, 0, none⟩ = some (.string (⟨#[]⟩ : ByteArray)) := (blk_cell BK500.out 0).trans rfl; have hcz73_1 : w68.cell? ⟨gb500, 1, none⟩ = some (.string (⟨#[]⟩ : ByteArray)) := (blk_cell BK500.out 1).trans rfl; have hfz73_0 := blk_frozen BK500.out 0; have hfz73_1 := blk_frozen BK500.out 1))
              have n0_ : Aside0 (((w68.setCell ⟨gb500, 0, none⟩ (.string t497)).setCell ⟨gb500, 1, none⟩ (.string t498)).heap[gb479]? = some (.cells #[.string a0_0, .string a0_1] 31 (0, 0))) := ⟨by (with_reducible repeat (first | refine blk_drewN ?_ _ | refine blk_drew ?_ | refine blk_alloc ?_ _)); refine blk_far ?_ NB479_500.out _; (with_reducible repeat (first | refine blk_drewN ?_ _ | refine blk_drew ?_ | refine blk_alloc ?_ _)); refine blk_far ?_ NB479_500.out _; (with_reducible repeat (first | refine blk_drewN ?_ _ | refine blk_drew ?_ | refine blk_alloc ?_ _)); exact BK479.out⟩
              have n1_ : Aside0 (((w68.setCell ⟨gb500, 0, none⟩ (.string t497)).setCell ⟨gb500, 1, none⟩ (.string t498)).heap[gb483]? = some (.cells #[.string t481, .string t482] 32 (0, 0))) := ⟨by (with_reducible repeat (first | refine blk_drewN ?_ _ | refine blk_drew ?_ | refine blk_alloc ?_ _)); refine blk_far ?_ NB483_500.out _; (with_reducible repeat (first | refine blk_drewN ?_ _ | refine blk_drew ?_ | refine blk_alloc ?_ _)); refine blk_far ?_ NB483_500.out _; (with_reducible repeat (first | refine blk_drewN ?_ _ | refine blk_drew ?_ | refine blk_alloc ?_ _)); exact BK483.out⟩
              have n2_ : Aside0 (((w68.setCell ⟨gb500, 0, none⟩ (.string t497)).setCell ⟨gb500, 1, none⟩ (.string t498)).heap[gb488]? = some (.cells #[.string t485, .string t486] 32 (0, 0))) := ⟨by (with_reducible repeat (first | refine blk_drewN ?_ _ | refine blk_drew ?_ | refine blk_alloc ?_ _)); refine blk_far ?_ NB488_500.out _; (with_reducible repeat (first | refine blk_drewN ?_ _ | refine blk_drew ?_ | refine blk_alloc ?_ _)); refine blk_far ?_ NB488_500.out _; (with_reducible repeat (first | refine blk_drewN ?_ _ | refine blk_drew ?_ | refine blk_alloc ?_ _)); exact BK488.out⟩
              have n3_ : Aside0 (((w68.setCell ⟨gb500, 0, none⟩ (.string t497)).setCell ⟨gb500, 1, none⟩ (.string t498)).heap[gb495]? = some (.cells #[.string t492, .string t493] 32 (0, 0))) := ⟨by (with_reducible repeat (first | refine blk_drewN ?_ _ | refine blk_drew ?_ | refine blk_alloc ?_ _)); refine blk_far ?_ NB495_500.out _; (with_reducible repeat (first | refine blk_drewN ?_ _ | refine blk_drew ?_ | refine blk_alloc ?_ _)); refine blk_far ?_ NB495_500.out _; (with_reducible repeat (first | refine blk_drewN ?_ _ | refine blk_drew ?_ | refine blk_alloc ?_ _)); exact BK495.out⟩
              have n4_ : Aside0 (((w68.setCell ⟨gb500, 0, none⟩ (.string t497)).setCell ⟨gb500, 1, none⟩ (.string t498)).heap[gb500]? = some (.cells #[.string t497, .string t498] 32 (0, 0))) := ⟨by (with_reducible repeat (first | refine blk_drewN ?_ _ | refine blk_drew ?_ | refine blk_alloc ?_ _)); refine blk_put (cs := #[.string t497, .string (⟨#[]⟩ : ByteArray)]) ?_ 1 _ rfl; (with_reducible repeat (first | refine blk_drewN ?_ _ | refine blk_drew ?_ | refine blk_alloc ?_ _)); refine blk_put (cs := #[.string (⟨#[]⟩ : ByteArray), .string (⟨#[]⟩ : ByteArray)]) ?_ 0 _ rfl; (with_reducible repeat (first | refine blk_drewN ?_ _ | refine blk_drew ?_ | refine blk_alloc ?_ _)); exact BK500.out⟩
              have n5_ : Aside0 (Below w.heap.size w ((w68.setCell ⟨gb500, 0, none⟩ (.string t497)).setCell ⟨gb500, 1, none⟩ (.string t498))) := ⟨by repeat (first | (with_reducible first | exact HB.out | apply below_alloc | apply pw_below_drewN | apply below_drew1 | refine below_set ?_ GE479.out | refine below_set ?_ GE483.out | refine below_set ?_ GE488.out | refine below_set ?_ GE495.out | refine below_set ?_ GE500.out) | exact HB.out)⟩
              (try clear BK479)
              (try clear BK483)
              (try clear BK488)
              (try clear BK495)
              (try clear BK500)
              (try clear HB)
              generalize ((w68.setCell ⟨gb500, 0, none⟩ (.string t497)).setCell ⟨gb500, 1, none⟩ (.string t498)) = w74 at n0_ n1_ n2_ n3_ n4_ n5_ ⊢
              have BK479 := n0_
              have BK483 := n1_
              have BK488 := n2_
              have BK495 := n3_
              have BK500 := n4_
              have HB := n5_
              clear n0_ n1_ n2_ n3_ n4_ n5_
              have n0_ := Aside0.mk (blk_drew BK479.out)
              have n1_ := Aside0.mk (blk_drew BK483.out)
              have n2_ := Aside0.mk (blk_drew BK488.out)
              have n3_ := Aside0.mk (blk_drew BK495.out)
              have n4_ := Aside0.mk (blk_drew BK500.out)
              have n5_ := Aside0.mk (below_drew1 HB.out)
              clear BK479
              clear BK483
              clear BK488
              clear BK495
              clear BK500
              clear HB
              have BK479 := n0_
              have BK483 := n1_
              have BK488 := n2_
              have BK495 := n3_
              have BK500 := n4_
              have HB := n5_
              clear n0_ n1_ n2_ n3_ n4_ n5_
              refine start_ (n := 29) (S := fun w' => w'.cell? ⟨gb495, 0, none⟩ = some (.string t492) ∧ w'.cell? ⟨gb495, 1, none⟩ = some (.string t493) ∧ w'.cell? ⟨gb483, 0, none⟩ = some (.string t481) ∧ w'.cell? ⟨gb483, 1, none⟩ = some (.string t482) ∧ w'.cell? ⟨gb500, 0, none⟩ = some (.string t497) ∧ w'.cell? ⟨gb500, 1, none⟩ = some (.string t498)) (ds := []) #[false, false, false, false, false, false, false, false, false, false, false, false, false, false, false, false, false, false, false, false, false, false, false, false, false, false, false, false, false] (by kernel_rfl) rfl rfl ⟨(blk_cell BK495.out 0).trans rfl, (blk_cell BK495.out 1).trans rfl, (blk_cell BK483.out 0).trans rfl, (blk_cell BK483.out 1).trans rfl, (blk_cell BK500.out 0).trans rfl, (blk_cell BK500.out 1).trans rfl⟩ (fun hHeld => ?_); refine with_tabW bulletinlaw13_AddrBack.tab13 bulletinlaw13_AddrBack.bits13 (fun HT_ HW_ => ?_)
              generalize w74.drew = w75 at BK479 BK483 BK488 BK495 BK500 HB hHeld ⊢
              refine pure_ (i := 0) (N := some 55) (v := ?_) (a' := ?_) (bitsL 29 1) rfl rfl (any_of HT_.out (by kernel_rfl)) (fun _ _ _ h => h) (Or.inl ⟨by rfl, ?_⟩) ?_ ?_
              rotate_left
              ·intro w'
               go_simp
               with_reducible rfl
              rotate_left
              ·simp only [Act.put, List.setIfInBounds_toArray, List.set_cons_zero, List.set_cons_succ, i64_w, i32_w]
               rfl
              refine pure_ (i := 1) (N := some 56) (v := ?_) (a' := ?_) (bitsL 29 3) rfl rfl (any_of HT_.out (by kernel_rfl)) (fun _ _ _ h => h) (Or.inl ⟨by rfl, ?_⟩) ?_ ?_
              rotate_left
              ·intro w'
               go_simp
               with_reducible rfl
              rotate_left
              ·simp only [Act.put, List.setIfInBounds_toArray, List.set_cons_zero, List.set_cons_succ, i64_w, i32_w]
               rfl
              refine pure_ (i := 2) (N := some 57) (v := ?_) (a' := ?_) (bitsL 29 7) rfl rfl (any_of HT_.out (by kernel_rfl)) (fun _ _ _ h => h) (Or.inl ⟨by rfl, ?_⟩) ?_ ?_
              rotate_left
              ·intro w'
               go_simp
               with_reducible rfl
              rotate_left
              ·simp only [Act.put, List.setIfInBounds_toArray, List.set_cons_zero, List.set_cons_succ, i64_w, i32_w]
               rfl
              refine take_ (i := 3) (N := some 58) (v := ?_) (a' := ?_) (bitsL 29 15) rfl rfl (take_ofW HT_.out HW_.out (by kernel_rfl)) (fun _ _ _ h => h) (Or.inl ⟨by rfl, ?_⟩) hHeld ?_ ?_
              rotate_left
              ·rintro w' ⟨s0, s1, s2, s3, s4, s5⟩
               go_simp
               with_reducible rfl
              rotate_left
              ·simp only [Act.put, List.setIfInBounds_toArray, List.set_cons_zero, List.set_cons_succ, i64_w, i32_w]
               rfl
              refine take_ (i := 4) (N := some 59) (v := ?_) (a' := ?_) (bitsL 29 31) rfl rfl (take_ofW HT_.out HW_.out (by kernel_rfl)) (fun _ _ _ h => h) (Or.inl ⟨by rfl, ?_⟩) hHeld ?_ ?_
              rotate_left
              ·rintro w' ⟨s0, s1, s2, s3, s4, s5⟩
               go_simp
               with_reducible rfl
              rotate_left
              ·simp only [Act.put, List.setIfInBounds_toArray, List.set_cons_zero, List.set_cons_succ, i64_w, i32_w]
               rfl
              refine pure_ (i := 5) (N := some 60) (v := ?_) (a' := ?_) (bitsL 29 63) rfl rfl (any_of HT_.out (by kernel_rfl)) (fun _ _ _ h => h) (Or.inl ⟨by rfl, ?_⟩) ?_ ?_
              rotate_left
              ·intro w'
               go_simp
               with_reducible rfl
              rotate_left
              ·simp only [Act.put, List.setIfInBounds_toArray, List.set_cons_zero, List.set_cons_succ, i64_w, i32_w]
               rfl
              refine pure_ (i := 6) (N := some 61) (v := ?_) (a' := ?_) (bitsL 29 127) rfl rfl (any_of HT_.out (by kernel_rfl)) (fun _ _ _ h => h) (Or.inl ⟨by rfl, ?_⟩) ?_ ?_
              rotate_left
              ·intro w'
               go_simp
               with_reducible rfl
              rotate_left
              ·simp only [Act.put, List.setIfInBounds_toArray, List.set_cons_zero, List.set_cons_succ, i64_w, i32_w]
               rfl
              refine pure_ (i := 7) (N := some 62) (v := ?_) (a' := ?_) (bitsL 29 255) rfl rfl (any_of HT_.out (by kernel_rfl)) (fun _ _ _ h => h) (Or.inl ⟨by rfl, ?_⟩) ?_ ?_
              rotate_left
              ·intro w'
               go_simp
               with_reducible rfl
              rotate_left
              ·simp only [Act.put, List.setIfInBounds_toArray, List.set_cons_zero, List.set_cons_succ, i64_w, i32_w]
               rfl
              refine pure_ (i := 8) (N := some 63) (v := ?_) (a' := ?_) (bitsL 29 511) rfl rfl (any_of HT_.out (by kernel_rfl)) (fun _ _ _ h => h) (Or.inl ⟨by rfl, ?_⟩) ?_ ?_
              rotate_left
              ·intro w'
               go_simp
               with_reducible rfl
              rotate_left
              ·simp only [Act.put, List.setIfInBounds_toArray, List.set_cons_zero, List.set_cons_succ, i64_w, i32_w]
               rfl
              refine pure_ (i := 9) (N := some 64) (v := ?_) (a' := ?_) (bitsL 29 1023) rfl rfl (any_of HT_.out (by kernel_rfl)) (fun _ _ _ h => h) (Or.inl ⟨by rfl, ?_⟩) ?_ ?_
              rotate_left
              ·intro w'
               go_simp
               with_reducible rfl
              rotate_left
              ·simp only [Act.put, List.setIfInBounds_toArray, List.set_cons_zero, List.set_cons_succ, i64_w, i32_w]
               rfl
              refine pure_ (i := 10) (N := some 65) (v := ?_) (a' := ?_) (bitsL 29 2047) rfl rfl (any_of HT_.out (by kernel_rfl)) (fun _ _ _ h => h) (Or.inl ⟨by rfl, ?_⟩) ?_ ?_
              rotate_left
              ·intro w'
               go_simp
               with_reducible rfl
              rotate_left
              ·simp only [Act.put, List.setIfInBounds_toArray, List.set_cons_zero, List.set_cons_succ, i64_w, i32_w]
               rfl
              refine pure_ (i := 11) (N := some 66) (v := ?_) (a' := ?_) (bitsL 29 4095) rfl rfl (any_of HT_.out (by kernel_rfl)) (fun _ _ _ h => h) (Or.inl ⟨by rfl, ?_⟩) ?_ ?_
              rotate_left
              ·intro w'
               go_simp
               with_reducible rfl
              rotate_left
              ·simp only [Act.put, List.setIfInBounds_toArray, List.set_cons_zero, List.set_cons_succ, i64_w, i32_w]
               rfl
              refine take_ (i := 12) (N := some 67) (v := ?_) (a' := ?_) (bitsL 29 8191) rfl rfl (take_ofW HT_.out HW_.out (by kernel_rfl)) (fun _ _ _ h => h) (Or.inl ⟨by rfl, ?_⟩) hHeld ?_ ?_
              rotate_left
              ·rintro w' ⟨s0, s1, s2, s3, s4, s5⟩
               go_simp
               with_reducible rfl
              rotate_left
              ·simp only [Act.put, List.setIfInBounds_toArray, List.set_cons_zero, List.set_cons_succ, i64_w, i32_w]
               rfl
              refine take_ (i := 14) (N := some 69) (v := ?_) (a' := ?_) (bitsL 29 24575) rfl rfl (take_ofW HT_.out HW_.out (by kernel_rfl)) (fun _ _ _ h => h) (Or.inl ⟨by rfl, ?_⟩) hHeld ?_ ?_
              rotate_left
              ·rintro w' ⟨s0, s1, s2, s3, s4, s5⟩
               go_simp
               with_reducible rfl
              rotate_left
              ·simp only [Act.put, List.setIfInBounds_toArray, List.set_cons_zero, List.set_cons_succ, i64_w, i32_w]
               rfl
              refine one_ (i := 13) (N := some 68) (bitsL 29 32767) rfl rfl (one_of HT_.out (by kernel_rfl)) (by decide) (fun K hK => ?_)
              refine goes_ Tryd.func26 (by kernel_rfl) rfl #[.agg #[.string t497, .string t498]] (by rfl) rfl rfl am ?_
              with_reducible refine (addr_Addr_Key.calls kj13 t497 t498 t501 _ A49.out).mono ?_
              rintro e w76 ⟨rfl, hb⟩
              refine ⟨_, rfl, ?_⟩
              have n0_ := Aside0.mk (blk_below (g := gb479) (o := .cells #[.string a0_0, .string a0_1] 31 (0, 0)) bk hb)
              have n1_ := Aside0.mk (blk_below (g := gb483) (o := .cells #[.string t481, .string t482] 32 (0, 0)) bk hb)
              have n2_ := Aside0.mk (blk_below (g := gb488) (o := .cells #[.string t485, .string t486] 32 (0, 0)) bk hb)
              have n3_ := Aside0.mk (blk_below (g := gb495) (o := .cells #[.string t492, .string t493] 32 (0, 0)) bk hb)
              have n4_ := Aside0.mk (blk_below (g := gb500) (o := .cells #[.string t497, .string t498] 32 (0, 0)) bk hb)
              have n5_ := Aside0.mk (below_step (by repeat (first | (with_reducible first | exact HB.out | apply below_alloc | apply pw_below_drewN | apply below_drew1 | refine below_set ?_ GE479.out | refine below_set ?_ GE483.out | refine below_set ?_ GE488.out | refine below_set ?_ GE495.out | refine below_set ?_ GE500.out) | exact HB.out)) hb)
              clear BK479
              clear BK483
              clear BK488
              clear BK495
              clear BK500
              clear HB
              have BK479 := n0_
              have BK483 := n1_
              have BK488 := n2_
              have BK495 := n3_
              have BK500 := n4_
              have HB := n5_
              clear n0_ n1_ n2_ n3_ n4_ n5_
              (try clear hb)
              (try clear hb2)
              (try clear hk)
              (try clear hi)
              refine hK.out _ _ ⟨(blk_cell BK495.out 0).trans rfl, (blk_cell BK495.out 1).trans rfl, (blk_cell BK483.out 0).trans rfl, (blk_cell BK483.out 1).trans rfl, (blk_cell BK500.out 0).trans rfl, (blk_cell BK500.out 1).trans rfl⟩ (fun hHeld => ?_)
              clear hK K
              refine norm_ (a' := ?_) ?_ ?_
              rotate_left
              ·show Act.put _ (some 68) _ = _
               simp only [Act.put, List.setIfInBounds_toArray, List.set_cons_zero, List.set_cons_succ, i64_w, i32_w]
               rfl
              refine one_ (i := 15) (N := some 70) (bitsL 29 65535) rfl rfl (one_of HT_.out (by kernel_rfl)) (by decide) (fun K hK => ?_)
              refine goes_ Tryd.func26 (by kernel_rfl) rfl #[.agg #[.string t481, .string t482]] (by rfl) rfl rfl am ?_
              with_reducible refine (addr_Addr_Key.calls kj13 t481 t482 t502 _ A50.out).mono ?_
              rintro e w77 ⟨rfl, hb⟩
              refine ⟨_, rfl, ?_⟩
              have n0_ := Aside0.mk (blk_below (g := gb479) (o := .cells #[.string a0_0, .string a0_1] 31 (0, 0)) bk hb)
              have n1_ := Aside0.mk (blk_below (g := gb483) (o := .cells #[.string t481, .string t482] 32 (0, 0)) bk hb)
              have n2_ := Aside0.mk (blk_below (g := gb488) (o := .cells #[.string t485, .string t486] 32 (0, 0)) bk hb)
              have n3_ := Aside0.mk (blk_below (g := gb495) (o := .cells #[.string t492, .string t493] 32 (0, 0)) bk hb)
              have n4_ := Aside0.mk (blk_below (g := gb500) (o := .cells #[.string t497, .string t498] 32 (0, 0)) bk hb)
              have n5_ := Aside0.mk (below_step (by repeat (first | (with_reducible first | exact HB.out | apply below_alloc | apply pw_below_drewN | apply below_drew1 | refine below_set ?_ GE479.out | refine below_set ?_ GE483.out | refine below_set ?_ GE488.out | refine below_set ?_ GE495.out | refine below_set ?_ GE500.out) | exact HB.out)) hb)
              clear BK479
              clear BK483
              clear BK488
              clear BK495
              clear BK500
              clear HB
              have BK479 := n0_
              have BK483 := n1_
              have BK488 := n2_
              have BK495 := n3_
              have BK500 := n4_
              have HB := n5_
              clear n0_ n1_ n2_ n3_ n4_ n5_
              (try clear hb)
              (try clear hb2)
              (try clear hk)
              (try clear hi)
              refine hK.out _ _ ⟨(blk_cell BK495.out 0).trans rfl, (blk_cell BK495.out 1).trans rfl, (blk_cell BK483.out 0).trans rfl, (blk_cell BK483.out 1).trans rfl, (blk_cell BK500.out 0).trans rfl, (blk_cell BK500.out 1).trans rfl⟩ (fun hHeld => ?_)
              clear hK K
              refine norm_ (a' := ?_) ?_ ?_
              rotate_left
              ·show Act.put _ (some 70) _ = _
               simp only [Act.put, List.setIfInBounds_toArray, List.set_cons_zero, List.set_cons_succ, i64_w, i32_w]
               rfl
              refine pure_ (i := 16) (N := some 71) (v := ?_) (a' := ?_) (bitsL 29 131071) rfl rfl (any_of HT_.out (by kernel_rfl)) (fun _ _ _ h => h) (Or.inl ⟨by rfl, ?_⟩) ?_ ?_
              rotate_left
              ·intro w'
               go_simp
               with_reducible rfl
              rotate_left
              ·simp only [Act.put, List.setIfInBounds_toArray, List.set_cons_zero, List.set_cons_succ, i64_w, i32_w]
               rfl
              refine pure_ (i := 17) (N := some 72) (v := ?_) (a' := ?_) (bitsL 29 262143) rfl rfl (any_of HT_.out (by kernel_rfl)) (fun _ _ _ h => h) (Or.inl ⟨by rfl, ?_⟩) ?_ ?_
              rotate_left
              ·intro w'
               go_simp
               with_reducible rfl
              rotate_left
              ·simp only [Act.put, List.setIfInBounds_toArray, List.set_cons_zero, List.set_cons_succ, i64_w, i32_w]
               rfl
              refine pure_ (i := 18) (N := some 73) (v := ?_) (a' := ?_) (bitsL 29 524287) rfl rfl (any_of HT_.out (by kernel_rfl)) (fun _ _ _ h => h) (Or.inl ⟨by rfl, ?_⟩) ?_ ?_
              rotate_left
              ·intro w'
               go_simp
               with_reducible rfl
              rotate_left
              ·simp only [Act.put, List.setIfInBounds_toArray, List.set_cons_zero, List.set_cons_succ, i64_w, i32_w]
               rfl
              refine pure_ (i := 20) (N := some 75) (v := ?_) (a' := ?_) (bitsL 29 1572863) rfl rfl (any_of HT_.out (by kernel_rfl)) (fun _ _ _ h => h) (Or.inl ⟨by rfl, ?_⟩) ?_ ?_
              rotate_left
              ·intro w'
               go_simp
               with_reducible rfl
              rotate_left
              ·simp only [Act.put, List.setIfInBounds_toArray, List.set_cons_zero, List.set_cons_succ, i64_w, i32_w]
               rfl
              refine pure_ (i := 23) (N := some 78) (v := ?_) (a' := ?_) (bitsL 29 9961471) rfl rfl (any_of HT_.out (by kernel_rfl)) (fun _ _ _ h => h) (Or.inl ⟨by rfl, ?_⟩) ?_ ?_
              rotate_left
              ·intro w'
               go_simp
               with_reducible rfl
              rotate_left
              ·simp only [Act.put, List.setIfInBounds_toArray, List.set_cons_zero, List.set_cons_succ, i64_w, i32_w]
               rfl
              refine take_ (i := 19) (N := some 74) (v := ?_) (a' := ?_) (bitsL 29 10485759) rfl rfl (take_ofW HT_.out HW_.out (by kernel_rfl)) (fun _ _ _ h => h) (Or.inl ⟨by rfl, ?_⟩) hHeld ?_ ?_
              rotate_left
              ·rintro w' ⟨s0, s1, s2, s3, s4, s5⟩
               go_simp
               with_reducible rfl
              rotate_left
              ·simp only [Act.put, List.setIfInBounds_toArray, List.set_cons_zero, List.set_cons_succ, i64_w, i32_w]
               rfl
              refine take_ (i := 21) (N := some 76) (v := ?_) (a' := ?_) (bitsL 29 12582911) rfl rfl (take_ofW HT_.out HW_.out (by kernel_rfl)) (fun _ _ _ h => h) (Or.inl ⟨by rfl, ?_⟩) hHeld ?_ ?_
              rotate_left
              ·rintro w' ⟨s0, s1, s2, s3, s4, s5⟩
               go_simp
               with_reducible rfl
              rotate_left
              ·simp only [Act.put, List.setIfInBounds_toArray, List.set_cons_zero, List.set_cons_succ, i64_w, i32_w]
               rfl
              refine take_ (i := 24) (N := some 79) (v := ?_) (a' := ?_) (bitsL 29 29360127) rfl rfl (take_ofW HT_.out HW_.out (by kernel_rfl)) (fun _ _ _ h => h) (Or.inl ⟨by rfl, ?_⟩) hHeld ?_ ?_
              rotate_left
              ·rintro w' ⟨s0, s1, s2, s3, s4, s5⟩
               go_simp
               with_reducible rfl
              rotate_left
              ·simp only [Act.put, List.setIfInBounds_toArray, List.set_cons_zero, List.set_cons_succ, i64_w, i32_w]
               rfl
              refine one_ (i := 22) (N := some 77) (bitsL 29 33554431) rfl rfl (one_of HT_.out (by kernel_rfl)) (by decide) (fun K hK => ?_)
              refine goes_ Tryd.func21 (by kernel_rfl) rfl #[.string t481] (by rfl) rfl rfl am ?_
              with_reducible refine (glyph_Fold.calls t481 t503 _ A52.out).mono ?_
              rintro e w78 ⟨rfl, hb⟩
              refine ⟨_, rfl, ?_⟩
              have n0_ := Aside0.mk (blk_below (g := gb479) (o := .cells #[.string a0_0, .string a0_1] 31 (0, 0)) bk hb)
              have n1_ := Aside0.mk (blk_below (g := gb483) (o := .cells #[.string t481, .string t482] 32 (0, 0)) bk hb)
              have n2_ := Aside0.mk (blk_below (g := gb488) (o := .cells #[.string t485, .string t486] 32 (0, 0)) bk hb)
              have n3_ := Aside0.mk (blk_below (g := gb495) (o := .cells #[.string t492, .string t493] 32 (0, 0)) bk hb)
              have n4_ := Aside0.mk (blk_below (g := gb500) (o := .cells #[.string t497, .string t498] 32 (0, 0)) bk hb)
              have n5_ := Aside0.mk (below_step (by repeat (first | (with_reducible first | exact HB.out | apply below_alloc | apply pw_below_drewN | apply below_drew1 | refine below_set ?_ GE479.out | refine below_set ?_ GE483.out | refine below_set ?_ GE488.out | refine below_set ?_ GE495.out | refine below_set ?_ GE500.out) | exact HB.out)) hb)
              clear BK479
              clear BK483
              clear BK488
              clear BK495
              clear BK500
              clear HB
              have BK479 := n0_
              have BK483 := n1_
              have BK488 := n2_
              have BK495 := n3_
              have BK500 := n4_
              have HB := n5_
              clear n0_ n1_ n2_ n3_ n4_ n5_
              (try clear hb)
              (try clear hb2)
              (try clear hk)
              (try clear hi)
              refine hK.out _ _ ⟨(blk_cell BK495.out 0).trans rfl, (blk_cell BK495.out 1).trans rfl, (blk_cell BK483.out 0).trans rfl, (blk_cell BK483.out 1).trans rfl, (blk_cell BK500.out 0).trans rfl, (blk_cell BK500.out 1).trans rfl⟩ (fun hHeld => ?_)
              clear hK K
              refine norm_ (a' := ?_) ?_ ?_
              rotate_left
              ·show Act.put _ (some 77) _ = _
               simp only [Act.put, List.setIfInBounds_toArray, List.set_cons_zero, List.set_cons_succ, i64_w, i32_w]
               rfl
              refine pure_ (i := 25) (N := some 80) (v := ?_) (a' := ?_) (bitsL 29 67108863) rfl rfl (any_of HT_.out (by kernel_rfl)) (fun _ _ _ h => h) (Or.inl ⟨by rfl, ?_⟩) ?_ ?_
              rotate_left
              ·intro w'
               go_simp
               with_reducible rfl
              rotate_left
              ·simp only [Act.put, List.setIfInBounds_toArray, List.set_cons_zero, List.set_cons_succ, i64_w, i32_w]
               rfl
              refine pure_ (i := 26) (N := some 81) (v := ?_) (a' := ?_) (bitsL 29 134217727) rfl rfl (any_of HT_.out (by kernel_rfl)) (fun _ _ _ h => h) (Or.inl ⟨by rfl, ?_⟩) ?_ ?_
              rotate_left
              ·intro w'
               go_simp
               with_reducible rfl
              rotate_left
              ·simp only [Act.put, List.setIfInBounds_toArray, List.set_cons_zero, List.set_cons_succ, i64_w, i32_w]
               rfl
              refine pure_ (i := 27) (N := some 82) (v := ?_) (a' := ?_) (bitsL 29 268435455) rfl rfl (any_of HT_.out (by kernel_rfl)) (fun _ _ _ h => h) (Or.inl ⟨by rfl, ?_⟩) ?_ ?_
              rotate_left
              ·intro w'
               go_simp
               with_reducible rfl
              rotate_left
              ·simp only [Act.put, List.setIfInBounds_toArray, List.set_cons_zero, List.set_cons_succ, i64_w, i32_w]
               rfl
              refine pure_ (i := 28) (N := some 2) (v := ?_) (a' := ?_) (bitsL 29 536870911) rfl rfl (any_of HT_.out (by kernel_rfl)) (fun _ _ _ h => h) (Or.inl ⟨by rfl, ?_⟩) ?_ ?_
              rotate_left
              ·intro w'
               go_simp
               with_reducible rfl
              rotate_left
              ·simp only [Act.put, List.setIfInBounds_toArray, List.set_cons_zero, List.set_cons_succ, i64_w, i32_w]
               rfl
              refine done_ (done_of HT_.out (by kernel_rfl)) ?_
              as_aux_lemma =>
               try go_wp2
               go_ret
               exact ⟨by first | rfl | (simp [errW_none, errW_some] <;> rfl) | (simp [*, errW_none, errW_some] <;> rfl), by repeat (first | (with_reducible first | exact HB.out | apply below_alloc | apply pw_below_drewN | apply below_drew1 | refine below_set ?_ GE479.out | refine below_set ?_ GE483.out | refine below_set ?_ GE488.out | refine below_set ?_ GE495.out | refine below_set ?_ GE500.out) | exact HB.out)⟩
            ·rw [if_neg c51] at H
             have c51b0 : (t501.toList == t502.toList) = false := beq_eq_false_iff_ne.mpr c51
             have c51b1 : (t501.toList != t502.toList) = true := bne_iff_ne.mpr c51
             obtain rfl := Option.some.inj H
             have hnb79 := NB483_479.out
             have hnc79 := NB479_483.out
             have hnb80 := NB483_488.out
             have hnc80 := NB488_483.out
             have hcz81_0 : wc.cell? ⟨gb483, 0, none⟩ = some (.string t481) := (blk_cell BK483.out 0).trans rfl
             have hcz81_1 : wc.cell? ⟨gb483, 1, none⟩ = some (.string t482) := (blk_cell BK483.out 1).trans rfl
             have hfz81_0 := blk_frozen BK483.out 0
             have hfz81_1 := blk_frozen BK483.out 1
             as_aux_lemma =>
              try go_wp2_with (first | ((with_reducible refine gate_callee (f := 25) rfl ?_); refine goesL_ (some 41) rfl rfl Tryd.func25 (by kernel_rfl) rfl #[.agg #[.string t481, .string t482]] rfl am ?_; (with_reducible refine (addr_Addr_Right.calls kj13 t481 t482 true _ A40.out).mono ?_); rintro e w82 ⟨rfl, hb⟩; refine ⟨_, rfl, ?_⟩; have n0_ := Aside0.mk (blk_below (g := gb479) (o := .cells #[.string a0_0, .string a0_1] 31 (0, 0)) bk hb); have n1_ := Aside0.mk (blk_below (g := gb483) (o := .cells #[.string t481, .string t482] 32 (0, 0)) bk hb); have n2_ := Aside0.mk (blk_below (g := gb488) (o := .cells #[.string t485, .string t486] 32 (0, 0)) bk hb); have n3_ := Aside0.mk (below_step (by repeat (first | (with_reducible first | exact HB.out | apply below_alloc | apply pw_below_drewN | apply below_drew1 | refine below_set ?_ GE479.out | refine below_set ?_ GE483.out | refine below_set ?_ GE488.out) | exact HB.out)) hb); clear BK479; clear BK483; clear BK488; clear HB; have BK479 := n0_; have BK483 := n1_; have BK488 := n2_; have HB := n3_; clear n0_ n1_ n2_ n3_; (try clear hb); (try clear hb2); (try clear hk); (try clear hi); have hcz83_0 : w82.cell? ⟨gb483, 0, none⟩ = some (.string t481) := (blk_cell BK483.out 0).trans rfl; have hcz83_1 : w82.cell? ⟨gb483, 1, none⟩ = some (.string t482) := (blk_cell BK483.out 1).trans rfl; have hfz83_0 := blk_frozen BK483.out 0; have hfz83_1 := blk_frozen BK483.out 1) | ((with_reducible refine gate_callee (f := 29) rfl ?_); refine goesL_ (some 45) rfl rfl Tryd.func29 (by kernel_rfl) rfl #[.agg #[.string t481, .string t482]] rfl am ?_; (with_reducible refine (addr_Addr_Text.calls kj13 t481 t482 t491 _ A42.out).mono ?_); rintro e w84 ⟨rfl, hb⟩; refine ⟨_, rfl, ?_⟩; have n0_ := Aside0.mk (blk_below (g := gb479) (o := .cells #[.string a0_0, .string a0_1] 31 (0, 0)) bk hb); have n1_ := Aside0.mk (blk_below (g := gb483) (o := .cells #[.string t481, .string t482] 32 (0, 0)) bk hb); have n2_ := Aside0.mk (blk_below (g := gb488) (o := .cells #[.string t485, .string t486] 32 (0, 0)) bk hb); have n3_ := Aside0.mk (below_step (by repeat (first | (with_reducible first | exact HB.out | apply below_alloc | apply pw_below_drewN | apply below_drew1 | refine below_set ?_ GE479.out | refine below_set ?_ GE483.out | refine below_set ?_ GE488.out) | exact HB.out)) hb); clear BK479; clear BK483; clear BK488; clear HB; have BK479 := n0_; have BK483 := n1_; have BK488 := n2_; have HB := n3_; clear n0_ n1_ n2_ n3_; (try clear hb); (try clear hb2); (try clear hk); (try clear hi)) | ((with_reducible refine gate_callee (f := 36) rfl ?_); refine goesL_ (some 46) rfl rfl Tryd.func36 (by kernel_rfl) rfl #[.string t491] rfl am ?_; (with_reducible refine (addr_Strict.calls kj13 t491 t492 t493 t494 _ A43.out).mono ?_); rintro e w85 ⟨rfl, hb⟩; refine ⟨_, rfl, ?_⟩; have n0_ := Aside0.mk (blk_below (g := gb479) (o := .cells #[.string a0_0, .string a0_1] 31 (0, 0)) bk hb); have n1_ := Aside0.mk (blk_below (g := gb483) (o := .cells #[.string t481, .string t482] 32 (0, 0)) bk hb); have n2_ := Aside0.mk (blk_below (g := gb488) (o := .cells #[.string t485, .string t486] 32 (0, 0)) bk hb); have n3_ := Aside0.mk (below_step (by repeat (first | (with_reducible first | exact HB.out | apply below_alloc | apply pw_below_drewN | apply below_drew1 | refine below_set ?_ GE479.out | refine below_set ?_ GE483.out | refine below_set ?_ GE488.out) | exact HB.out)) hb); clear BK479; clear BK483; clear BK488; clear HB; have BK479 := n0_; have BK483 := n1_; have BK488 := n2_; have HB := n3_; clear n0_ n1_ n2_ n3_; (try clear hb); (try clear hb2); (try clear hk); (try clear hi)) | ((with_reducible refine gate_dst (N := 6) rfl ?_); (try (refine gate_guard (by rfl) ?_; dsimp only)); refine box_event ?hg (N := 6) ?hd (cs := #[.string (⟨#[]⟩ : ByteArray), .string (⟨#[]⟩ : ByteArray)]) (t := 32) ?hr ?_; (case hd => rfl); (case hg => rfl); (case hr => first | (go_simp; done) | (go_simp; rfl)); intro gb495 hg w86 hbox hb; have n0_ := Aside0.mk (blk_below (g := gb479) (o := .cells #[.string a0_0, .string a0_1] 31 (0, 0)) bk hb); have n1_ := Aside0.mk (blk_below (g := gb483) (o := .cells #[.string t481, .string t482] 32 (0, 0)) bk hb); have n2_ := Aside0.mk (blk_below (g := gb488) (o := .cells #[.string t485, .string t486] 32 (0, 0)) bk hb); have n3_ := Aside0.mk (below_step (by repeat (first | (with_reducible first | exact HB.out | apply below_alloc | apply pw_below_drewN | apply below_drew1 | refine below_set ?_ GE479.out | refine below_set ?_ GE483.out | refine below_set ?_ GE488.out) | exact HB.out)) hb); have n4_ := Aside0.mk (hbox); have n5_ := Aside0.mk ((by rw [hg]; exact (below_size (by repeat (first | (with_reducible first | exact HB.out | apply below_alloc | apply pw_below_drewN | apply below_drew1 | refine below_set ?_ GE479.out | refine below_set ?_ GE483.out | refine below_set ?_ GE488.out) | exact HB.out))) : w.heap.size ≤ gb495)); have n6_ := Aside0.mk ((by rw [hg]; exact (below_size (by repeat (first | (with_reducible first | exact HB.out | apply below_alloc | apply pw_below_drewN | apply below_drew1 | refine below_set ?_ GE479.out | refine below_set ?_ GE483.out | refine below_set ?_ GE488.out) | exact HB.out))) : w.heap.size ≤ gb495)); have n7_ := Aside0.mk ((by rw [hg]; exact Nat.ne_of_lt (blk_lt (g := gb479) (o := .cells #[.string a0_0, .string a0_1] 31 (0, 0)) bk) : gb479 ≠ gb495)); have n8_ := Aside0.mk ((by rw [hg]; exact Nat.ne_of_gt (blk_lt (g := gb479) (o := .cells #[.string a0_0, .string a0_1] 31 (0, 0)) bk) : gb495 ≠ gb479)); have n9_ := Aside0.mk ((by rw [hg]; exact Nat.ne_of_lt (blk_lt (g := gb483) (o := .cells #[.string t481, .string t482] 32 (0, 0)) bk) : gb483 ≠ gb495)); have n10_ := Aside0.mk ((by rw [hg]; exact Nat.ne_of_gt (blk_lt (g := gb483) (o := .cells #[.string t481, .string t482] 32 (0, 0)) bk) : gb495 ≠ gb483)); have n11_ := Aside0.mk ((by rw [hg]; exact Nat.ne_of_lt (blk_lt (g := gb488) (o := .cells #[.string t485, .string t486] 32 (0, 0)) bk) : gb488 ≠ gb495)); have n12_ := Aside0.mk ((by rw [hg]; exact Nat.ne_of_gt (blk_lt (g := gb488) (o := .cells #[.string t485, .string t486] 32 (0, 0)) bk) : gb495 ≠ gb488)); clear BK479; clear BK483; clear BK488; clear HB; have BK479 := n0_; have BK483 := n1_; have BK488 := n2_; have HB := n3_; have BK495 := n4_; have GW495 := n5_; have GE495 := n6_; have NB479_495 := n7_; have NB495_479 := n8_; have NB483_495 := n9_; have NB495_483 := n10_; have NB488_495 := n11_; have NB495_488 := n12_; clear n0_ n1_ n2_ n3_ n4_ n5_ n6_ n7_ n8_ n9_ n10_ n11_ n12_; clear hb hbox hg; have hnb87 := NB495_479.out; have hnc87 := NB479_495.out; have hnb88 := NB495_483.out; have hnc88 := NB483_495.out; have hnb89 := NB495_488.out; have hnc89 := NB488_495.out; have hcz90_0 : w86.cell? ⟨gb495, 0, none⟩ = some (.string (⟨#[]⟩ : ByteArray)) := (blk_cell BK495.out 0).trans rfl; have hcz90_1 : w86.cell? ⟨gb495, 1, none⟩ = some (.string (⟨#[]⟩ : ByteArray)) := (blk_cell BK495.out 1).trans rfl; have hfz90_0 := blk_frozen BK495.out 0; have hfz90_1 := blk_frozen BK495.out 1; have hcz91_0 : w86.cell? ⟨gb483, 0, none⟩ = some (.string t481) := (blk_cell BK483.out 0).trans rfl; have hcz91_1 : w86.cell? ⟨gb483, 1, none⟩ = some (.string t482) := (blk_cell BK483.out 1).trans rfl; have hfz91_0 := blk_frozen BK483.out 0; have hfz91_1 := blk_frozen BK483.out 1) | ((with_reducible refine gate_callee (f := 26) rfl ?_); refine goesL_ (some 51) rfl rfl Tryd.func26 (by kernel_rfl) rfl #[.agg #[.string t481, .string t482]] rfl am ?_; (with_reducible refine (addr_Addr_Key.calls kj13 t481 t482 t496 _ A44.out).mono ?_); rintro e w92 ⟨rfl, hb⟩; refine ⟨_, rfl, ?_⟩; have n0_ := Aside0.mk (blk_below (g := gb479) (o := .cells #[.string a0_0, .string a0_1] 31 (0, 0)) (by (with_reducible repeat (first | refine blk_drewN ?_ _ | refine blk_drew ?_ | refine blk_alloc ?_ _)); refine blk_far ?_ NB479_495.out _; (with_reducible repeat (first | refine blk_drewN ?_ _ | refine blk_drew ?_ | refine blk_alloc ?_ _)); refine blk_far ?_ NB479_495.out _; (with_reducible repeat (first | refine blk_drewN ?_ _ | refine blk_drew ?_ | refine blk_alloc ?_ _)); exact BK479.out) hb); have n1_ := Aside0.mk (blk_below (g := gb483) (o := .cells #[.string t481, .string t482] 32 (0, 0)) (by (with_reducible repeat (first | refine blk_drewN ?_ _ | refine blk_drew ?_ | refine blk_alloc ?_ _)); refine blk_far ?_ NB483_495.out _; (with_reducible repeat (first | refine blk_drewN ?_ _ | refine blk_drew ?_ | refine blk_alloc ?_ _)); refine blk_far ?_ NB483_495.out _; (with_reducible repeat (first | refine blk_drewN ?_ _ | refine blk_drew ?_ | refine blk_alloc ?_ _)); exact BK483.out) hb); have n2_ := Aside0.mk (blk_below (g := gb488) (o := .cells #[.string t485, .string t486] 32 (0, 0)) (by (with_reducible repeat (first | refine blk_drewN ?_ _ | refine blk_drew ?_ | refine blk_alloc ?_ _)); refine blk_far ?_ NB488_495.out _; (with_reducible repeat (first | refine blk_drewN ?_ _ | refine blk_drew ?_ | refine blk_alloc ?_ _)); refine blk_far ?_ NB488_495.out _; (with_reducible repeat (first | refine blk_drewN ?_ _ | refine blk_drew ?_ | refine blk_alloc ?_ _)); exact BK488.out) hb); have n3_ := Aside0.mk (blk_below (g := gb495) (o := .cells #[.string t492, .string t493] 32 (0, 0)) (by (with_reducible repeat (first | refine blk_drewN ?_ _ | refine blk_drew ?_ | refine blk_alloc ?_ _)); refine blk_put (cs := #[.string t492, .string (⟨#[]⟩ : ByteArray)]) ?_ 1 _ rfl; (with_reducible repeat (first | refine blk_drewN ?_ _ | refine blk_drew ?_ | refine blk_alloc ?_ _)); refine blk_put (cs := #[.string (⟨#[]⟩ : ByteArray), .string (⟨#[]⟩ : ByteArray)]) ?_ 0 _ rfl; (with_reducible repeat (first | refine blk_drewN ?_ _ | refine blk_drew ?_ | refine blk_alloc ?_ _)); exact BK495.out) hb); have n4_ := Aside0.mk (below_step (by repeat (first | (with_reducible first | exact HB.out | apply below_alloc | apply pw_below_drewN | apply below_drew1 | refine below_set ?_ GE479.out | refine below_set ?_ GE483.out | refine below_set ?_ GE488.out | refine below_set ?_ GE495.out) | exact HB.out)) hb); clear BK479; clear BK483; clear BK488; clear BK495; clear HB; have BK479 := n0_; have BK483 := n1_; have BK488 := n2_; have BK495 := n3_; have HB := n4_; clear n0_ n1_ n2_ n3_ n4_; (try clear hb); (try clear hb2); (try clear hk); (try clear hi)) | ((with_reducible refine gate_callee (f := 35) rfl ?_); refine goesL_ (some 52) rfl rfl Tryd.func35 (by kernel_rfl) rfl #[.string t496] rfl am ?_; (with_reducible refine (addr_Parse.calls kj13 t496 t497 t498 t499 _ A45.out).mono ?_); rintro e w93 ⟨rfl, hb⟩; refine ⟨_, rfl, ?_⟩; have n0_ := Aside0.mk (blk_below (g := gb479) (o := .cells #[.string a0_0, .string a0_1] 31 (0, 0)) bk hb); have n1_ := Aside0.mk (blk_below (g := gb483) (o := .cells #[.string t481, .string t482] 32 (0, 0)) bk hb); have n2_ := Aside0.mk (blk_below (g := gb488) (o := .cells #[.string t485, .string t486] 32 (0, 0)) bk hb); have n3_ := Aside0.mk (blk_below (g := gb495) (o := .cells #[.string t492, .string t493] 32 (0, 0)) bk hb); have n4_ := Aside0.mk (below_step (by repeat (first | (with_reducible first | exact HB.out | apply below_alloc | apply pw_below_drewN | apply below_drew1 | refine below_set ?_ GE479.out | refine below_set ?_ GE483.out | refine below_set ?_ GE488.out | refine below_set ?_ GE495.out) | exact HB.out)) hb); clear BK479; clear BK483; clear BK488; clear BK495; clear HB; have BK479 := n0_; have BK483 := n1_; have BK488 := n2_; have BK495 := n3_; have HB := n4_; clear n0_ n1_ n2_ n3_ n4_; (try clear hb); (try clear hb2); (try clear hk); (try clear hi)) | ((with_reducible refine gate_dst (N := 8) rfl ?_); (try (refine gate_guard (by rfl) ?_; dsimp only)); refine box_event ?hg (N := 8) ?hd (cs := #[.string (⟨#[]⟩ : ByteArray), .string (⟨#[]⟩ : ByteArray)]) (t := 32) ?hr ?_; (case hd => rfl); (case hg => rfl); (case hr => first | (go_simp; done) | (go_simp; rfl)); intro gb500 hg w94 hbox hb; have n0_ := Aside0.mk (blk_below (g := gb479) (o := .cells #[.string a0_0, .string a0_1] 31 (0, 0)) bk hb); have n1_ := Aside0.mk (blk_below (g := gb483) (o := .cells #[.string t481, .string t482] 32 (0, 0)) bk hb); have n2_ := Aside0.mk (blk_below (g := gb488) (o := .cells #[.string t485, .string t486] 32 (0, 0)) bk hb); have n3_ := Aside0.mk (blk_below (g := gb495) (o := .cells #[.string t492, .string t493] 32 (0, 0)) bk hb); have n4_ := Aside0.mk (below_step (by repeat (first | (with_reducible first | exact HB.out | apply below_alloc | apply pw_below_drewN | apply below_drew1 | refine below_set ?_ GE479.out | refine below_set ?_ GE483.out | refine below_set ?_ GE488.out | refine below_set ?_ GE495.out) | exact HB.out)) hb); have n5_ := Aside0.mk (hbox); have n6_ := Aside0.mk ((by rw [hg]; exact (below_size (by repeat (first | (with_reducible first | exact HB.out | apply below_alloc | apply pw_below_drewN | apply below_drew1 | refine below_set ?_ GE479.out | refine below_set ?_ GE483.out | refine below_set ?_ GE488.out | refine below_set ?_ GE495.out) | exact HB.out))) : w.heap.size ≤ gb500)); have n7_ := Aside0.mk ((by rw [hg]; exact (below_size (by repeat (first | (with_reducible first | exact HB.out | apply below_alloc | apply pw_below_drewN | apply below_drew1 | refine below_set ?_ GE479.out | refine below_set ?_ GE483.out | refine below_set ?_ GE488.out | refine below_set ?_ GE495.out) | exact HB.out))) : w.heap.size ≤ gb500)); have n8_ := Aside0.mk ((by rw [hg]; exact Nat.ne_of_lt (blk_lt (g := gb479) (o := .cells #[.string a0_0, .string a0_1] 31 (0, 0)) bk) : gb479 ≠ gb500)); have n9_ := Aside0.mk ((by rw [hg]; exact Nat.ne_of_gt (blk_lt (g := gb479) (o := .cells #[.string a0_0, .string a0_1] 31 (0, 0)) bk) : gb500 ≠ gb479)); have n10_ := Aside0.mk ((by rw [hg]; exact Nat.ne_of_lt (blk_lt (g := gb483) (o := .cells #[.string t481, .string t482] 32 (0, 0)) bk) : gb483 ≠ gb500)); have n11_ := Aside0.mk ((by rw [hg]; exact Nat.ne_of_gt (blk_lt (g := gb483) (o := .cells #[.string t481, .string t482] 32 (0, 0)) bk) : gb500 ≠ gb483)); have n12_ := Aside0.mk ((by rw [hg]; exact Nat.ne_of_lt (blk_lt (g := gb488) (o := .cells #[.string t485, .string t486] 32 (0, 0)) bk) : gb488 ≠ gb500)); have n13_ := Aside0.mk ((by rw [hg]; exact Nat.ne_of_gt (blk_lt (g := gb488) (o := .cells #[.string t485, .string t486] 32 (0, 0)) bk) : gb500 ≠ gb488)); have n14_ := Aside0.mk ((by rw [hg]; exact Nat.ne_of_lt (blk_lt (g := gb495) (o := .cells #[.string t492, .string t493] 32 (0, 0)) bk) : gb495 ≠ gb500)); have n15_ := Aside0.mk ((by rw [hg]; exact Nat.ne_of_gt (blk_lt (g := gb495) (o := .cells #[.string t492, .string t493] 32 (0, 0)) bk) : gb500 ≠ gb495)); clear BK479; clear BK483; clear BK488; clear BK495; clear HB; have BK479 := n0_; have BK483 := n1_; have BK488 := n2_; have BK495 := n3_; have HB := n4_; have BK500 := n5_; have GW500 := n6_; have GE500 := n7_; have NB479_500 := n8_; have NB500_479 := n9_; have NB483_500 := n10_; have NB500_483 := n11_; have NB488_500 := n12_; have NB500_488 := n13_; have NB495_500 := n14_; have NB500_495 := n15_; clear n0_ n1_ n2_ n3_ n4_ n5_ n6_ n7_ n8_ n9_ n10_ n11_ n12_ n13_ n14_ n15_; clear hb hbox hg; have hnb95 := NB500_479.out; have hnc95 := NB479_500.out; have hnb96 := NB500_483.out; have hnc96 := NB483_500.out; have hnb97 := NB500_488.out; have hnc97 := NB488_500.out; have hnb98 := NB500_495.out; have hnc98 := NB495_500.out; have hcz99_0 : w94.cell? ⟨gb500, 0, none⟩ = some (.string (⟨#[]⟩ : ByteArray)) := (blk_cell BK500.out 0).trans rfl; have hcz99_1 : w94.cell? ⟨gb500, 1, none⟩ = some (.string (⟨#[]⟩ : ByteArray)) := (blk_cell BK500.out 1).trans rfl; have hfz99_0 := blk_frozen BK500.out 0; have hfz99_1 := blk_frozen BK500.out 1))
              have n0_ : Aside0 (((w94.setCell ⟨gb500, 0, none⟩ (.string t497)).setCell ⟨gb500, 1, none⟩ (.string t498)).heap[gb479]? = some (.cells #[.string a0_0, .string a0_1] 31 (0, 0))) := ⟨by (with_reducible repeat (first | refine blk_drewN ?_ _ | refine blk_drew ?_ | refine blk_alloc ?_ _)); refine blk_far ?_ NB479_500.out _; (with_reducible repeat (first | refine blk_drewN ?_ _ | refine blk_drew ?_ | refine blk_alloc ?_ _)); refine blk_far ?_ NB479_500.out _; (with_reducible repeat (first | refine blk_drewN ?_ _ | refine blk_drew ?_ | refine blk_alloc ?_ _)); exact BK479.out⟩
              have n1_ : Aside0 (((w94.setCell ⟨gb500, 0, none⟩ (.string t497)).setCell ⟨gb500, 1, none⟩ (.string t498)).heap[gb483]? = some (.cells #[.string t481, .string t482] 32 (0, 0))) := ⟨by (with_reducible repeat (first | refine blk_drewN ?_ _ | refine blk_drew ?_ | refine blk_alloc ?_ _)); refine blk_far ?_ NB483_500.out _; (with_reducible repeat (first | refine blk_drewN ?_ _ | refine blk_drew ?_ | refine blk_alloc ?_ _)); refine blk_far ?_ NB483_500.out _; (with_reducible repeat (first | refine blk_drewN ?_ _ | refine blk_drew ?_ | refine blk_alloc ?_ _)); exact BK483.out⟩
              have n2_ : Aside0 (((w94.setCell ⟨gb500, 0, none⟩ (.string t497)).setCell ⟨gb500, 1, none⟩ (.string t498)).heap[gb488]? = some (.cells #[.string t485, .string t486] 32 (0, 0))) := ⟨by (with_reducible repeat (first | refine blk_drewN ?_ _ | refine blk_drew ?_ | refine blk_alloc ?_ _)); refine blk_far ?_ NB488_500.out _; (with_reducible repeat (first | refine blk_drewN ?_ _ | refine blk_drew ?_ | refine blk_alloc ?_ _)); refine blk_far ?_ NB488_500.out _; (with_reducible repeat (first | refine blk_drewN ?_ _ | refine blk_drew ?_ | refine blk_alloc ?_ _)); exact BK488.out⟩
              have n3_ : Aside0 (((w94.setCell ⟨gb500, 0, none⟩ (.string t497)).setCell ⟨gb500, 1, none⟩ (.string t498)).heap[gb495]? = some (.cells #[.string t492, .string t493] 32 (0, 0))) := ⟨by (with_reducible repeat (first | refine blk_drewN ?_ _ | refine blk_drew ?_ | refine blk_alloc ?_ _)); refine blk_far ?_ NB495_500.out _; (with_reducible repeat (first | refine blk_drewN ?_ _ | refine blk_drew ?_ | refine blk_alloc ?_ _)); refine blk_far ?_ NB495_500.out _; (with_reducible repeat (first | refine blk_drewN ?_ _ | refine blk_drew ?_ | refine blk_alloc ?_ _)); exact BK495.out⟩
              have n4_ : Aside0 (((w94.setCell ⟨gb500, 0, none⟩ (.string t497)).setCell ⟨gb500, 1, none⟩ (.string t498)).heap[gb500]? = some (.cells #[.string t497, .string t498] 32 (0, 0))) := ⟨by (with_reducible repeat (first | refine blk_drewN ?_ _ | refine blk_drew ?_ | refine blk_alloc ?_ _)); refine blk_put (cs := #[.string t497, .string (⟨#[]⟩ : ByteArray)]) ?_ 1 _ rfl; (with_reducible repeat (first | refine blk_drewN ?_ _ | refine blk_drew ?_ | refine blk_alloc ?_ _)); refine blk_put (cs := #[.string (⟨#[]⟩ : ByteArray), .string (⟨#[]⟩ : ByteArray)]) ?_ 0 _ rfl; (with_reducible repeat (first | refine blk_drewN ?_ _ | refine blk_drew ?_ | refine blk_alloc ?_ _)); exact BK500.out⟩
              have n5_ : Aside0 (Below w.heap.size w ((w94.setCell ⟨gb500, 0, none⟩ (.string t497)).setCell ⟨gb500, 1, none⟩ (.string t498))) := ⟨by repeat (first | (with_reducible first | exact HB.out | apply below_alloc | apply pw_below_drewN | apply below_drew1 | refine below_set ?_ GE479.out | refine below_set ?_ GE483.out | refine below_set ?_ GE488.out | refine below_set ?_ GE495.out | refine below_set ?_ GE500.out) | exact HB.out)⟩
              (try clear BK479)
              (try clear BK483)
              (try clear BK488)
              (try clear BK495)
              (try clear BK500)
              (try clear HB)
              generalize ((w94.setCell ⟨gb500, 0, none⟩ (.string t497)).setCell ⟨gb500, 1, none⟩ (.string t498)) = w100 at n0_ n1_ n2_ n3_ n4_ n5_ ⊢
              have BK479 := n0_
              have BK483 := n1_
              have BK488 := n2_
              have BK495 := n3_
              have BK500 := n4_
              have HB := n5_
              clear n0_ n1_ n2_ n3_ n4_ n5_
              have n0_ := Aside0.mk (blk_drew BK479.out)
              have n1_ := Aside0.mk (blk_drew BK483.out)
              have n2_ := Aside0.mk (blk_drew BK488.out)
              have n3_ := Aside0.mk (blk_drew BK495.out)
              have n4_ := Aside0.mk (blk_drew BK500.out)
              have n5_ := Aside0.mk (below_drew1 HB.out)
              clear BK479
              clear BK483
              clear BK488
              clear BK495
              clear BK500
              clear HB
              have BK479 := n0_
              have BK483 := n1_
              have BK488 := n2_
              have BK495 := n3_
              have BK500 := n4_
              have HB := n5_
              clear n0_ n1_ n2_ n3_ n4_ n5_
              refine start_ (n := 29) (S := fun w' => w'.cell? ⟨gb495, 0, none⟩ = some (.string t492) ∧ w'.cell? ⟨gb495, 1, none⟩ = some (.string t493) ∧ w'.cell? ⟨gb483, 0, none⟩ = some (.string t481) ∧ w'.cell? ⟨gb483, 1, none⟩ = some (.string t482) ∧ w'.cell? ⟨gb500, 0, none⟩ = some (.string t497) ∧ w'.cell? ⟨gb500, 1, none⟩ = some (.string t498)) (ds := []) #[false, false, false, false, false, false, false, false, false, false, false, false, false, false, false, false, false, false, false, false, false, false, false, false, false, false, false, false, false] (by kernel_rfl) rfl rfl ⟨(blk_cell BK495.out 0).trans rfl, (blk_cell BK495.out 1).trans rfl, (blk_cell BK483.out 0).trans rfl, (blk_cell BK483.out 1).trans rfl, (blk_cell BK500.out 0).trans rfl, (blk_cell BK500.out 1).trans rfl⟩ (fun hHeld => ?_); refine with_tabW bulletinlaw13_AddrBack.tab13 bulletinlaw13_AddrBack.bits13 (fun HT_ HW_ => ?_)
              generalize w100.drew = w101 at BK479 BK483 BK488 BK495 BK500 HB hHeld ⊢
              refine pure_ (i := 0) (N := some 55) (v := ?_) (a' := ?_) (bitsL 29 1) rfl rfl (any_of HT_.out (by kernel_rfl)) (fun _ _ _ h => h) (Or.inl ⟨by rfl, ?_⟩) ?_ ?_
              rotate_left
              ·intro w'
               go_simp
               with_reducible rfl
              rotate_left
              ·simp only [Act.put, List.setIfInBounds_toArray, List.set_cons_zero, List.set_cons_succ, i64_w, i32_w]
               rfl
              refine pure_ (i := 1) (N := some 56) (v := ?_) (a' := ?_) (bitsL 29 3) rfl rfl (any_of HT_.out (by kernel_rfl)) (fun _ _ _ h => h) (Or.inl ⟨by rfl, ?_⟩) ?_ ?_
              rotate_left
              ·intro w'
               go_simp
               with_reducible rfl
              rotate_left
              ·simp only [Act.put, List.setIfInBounds_toArray, List.set_cons_zero, List.set_cons_succ, i64_w, i32_w]
               rfl
              refine pure_ (i := 2) (N := some 57) (v := ?_) (a' := ?_) (bitsL 29 7) rfl rfl (any_of HT_.out (by kernel_rfl)) (fun _ _ _ h => h) (Or.inl ⟨by rfl, ?_⟩) ?_ ?_
              rotate_left
              ·intro w'
               go_simp
               with_reducible rfl
              rotate_left
              ·simp only [Act.put, List.setIfInBounds_toArray, List.set_cons_zero, List.set_cons_succ, i64_w, i32_w]
               rfl
              refine take_ (i := 3) (N := some 58) (v := ?_) (a' := ?_) (bitsL 29 15) rfl rfl (take_ofW HT_.out HW_.out (by kernel_rfl)) (fun _ _ _ h => h) (Or.inl ⟨by rfl, ?_⟩) hHeld ?_ ?_
              rotate_left
              ·rintro w' ⟨s0, s1, s2, s3, s4, s5⟩
               go_simp
               with_reducible rfl
              rotate_left
              ·simp only [Act.put, List.setIfInBounds_toArray, List.set_cons_zero, List.set_cons_succ, i64_w, i32_w]
               rfl
              refine take_ (i := 4) (N := some 59) (v := ?_) (a' := ?_) (bitsL 29 31) rfl rfl (take_ofW HT_.out HW_.out (by kernel_rfl)) (fun _ _ _ h => h) (Or.inl ⟨by rfl, ?_⟩) hHeld ?_ ?_
              rotate_left
              ·rintro w' ⟨s0, s1, s2, s3, s4, s5⟩
               go_simp
               with_reducible rfl
              rotate_left
              ·simp only [Act.put, List.setIfInBounds_toArray, List.set_cons_zero, List.set_cons_succ, i64_w, i32_w]
               rfl
              refine pure_ (i := 5) (N := some 60) (v := ?_) (a' := ?_) (bitsL 29 63) rfl rfl (any_of HT_.out (by kernel_rfl)) (fun _ _ _ h => h) (Or.inl ⟨by rfl, ?_⟩) ?_ ?_
              rotate_left
              ·intro w'
               go_simp
               with_reducible rfl
              rotate_left
              ·simp only [Act.put, List.setIfInBounds_toArray, List.set_cons_zero, List.set_cons_succ, i64_w, i32_w]
               rfl
              refine pure_ (i := 6) (N := some 61) (v := ?_) (a' := ?_) (bitsL 29 127) rfl rfl (any_of HT_.out (by kernel_rfl)) (fun _ _ _ h => h) (Or.inl ⟨by rfl, ?_⟩) ?_ ?_
              rotate_left
              ·intro w'
               go_simp
               with_reducible rfl
              rotate_left
              ·simp only [Act.put, List.setIfInBounds_toArray, List.set_cons_zero, List.set_cons_succ, i64_w, i32_w]
               rfl
              refine pure_ (i := 7) (N := some 62) (v := ?_) (a' := ?_) (bitsL 29 255) rfl rfl (any_of HT_.out (by kernel_rfl)) (fun _ _ _ h => h) (Or.inl ⟨by rfl, ?_⟩) ?_ ?_
              rotate_left
              ·intro w'
               go_simp
               with_reducible rfl
              rotate_left
              ·simp only [Act.put, List.setIfInBounds_toArray, List.set_cons_zero, List.set_cons_succ, i64_w, i32_w]
               rfl
              refine pure_ (i := 8) (N := some 63) (v := ?_) (a' := ?_) (bitsL 29 511) rfl rfl (any_of HT_.out (by kernel_rfl)) (fun _ _ _ h => h) (Or.inl ⟨by rfl, ?_⟩) ?_ ?_
              rotate_left
              ·intro w'
               go_simp
               with_reducible rfl
              rotate_left
              ·simp only [Act.put, List.setIfInBounds_toArray, List.set_cons_zero, List.set_cons_succ, i64_w, i32_w]
               rfl
              refine pure_ (i := 9) (N := some 64) (v := ?_) (a' := ?_) (bitsL 29 1023) rfl rfl (any_of HT_.out (by kernel_rfl)) (fun _ _ _ h => h) (Or.inl ⟨by rfl, ?_⟩) ?_ ?_
              rotate_left
              ·intro w'
               go_simp
               with_reducible rfl
              rotate_left
              ·simp only [Act.put, List.setIfInBounds_toArray, List.set_cons_zero, List.set_cons_succ, i64_w, i32_w]
               rfl
              refine pure_ (i := 10) (N := some 65) (v := ?_) (a' := ?_) (bitsL 29 2047) rfl rfl (any_of HT_.out (by kernel_rfl)) (fun _ _ _ h => h) (Or.inl ⟨by rfl, ?_⟩) ?_ ?_
              rotate_left
              ·intro w'
               go_simp
               with_reducible rfl
              rotate_left
              ·simp only [Act.put, List.setIfInBounds_toArray, List.set_cons_zero, List.set_cons_succ, i64_w, i32_w]
               rfl
              refine pure_ (i := 11) (N := some 66) (v := ?_) (a' := ?_) (bitsL 29 4095) rfl rfl (any_of HT_.out (by kernel_rfl)) (fun _ _ _ h => h) (Or.inl ⟨by rfl, ?_⟩) ?_ ?_
              rotate_left
              ·intro w'
               go_simp
               with_reducible rfl
              rotate_left
              ·simp only [Act.put, List.setIfInBounds_toArray, List.set_cons_zero, List.set_cons_succ, i64_w, i32_w]
               rfl
              refine take_ (i := 12) (N := some 67) (v := ?_) (a' := ?_) (bitsL 29 8191) rfl rfl (take_ofW HT_.out HW_.out (by kernel_rfl)) (fun _ _ _ h => h) (Or.inl ⟨by rfl, ?_⟩) hHeld ?_ ?_
              rotate_left
              ·rintro w' ⟨s0, s1, s2, s3, s4, s5⟩
               go_simp
               with_reducible rfl
              rotate_left
              ·simp only [Act.put, List.setIfInBounds_toArray, List.set_cons_zero, List.set_cons_succ, i64_w, i32_w]
               rfl
              refine take_ (i := 14) (N := some 69) (v := ?_) (a' := ?_) (bitsL 29 24575) rfl rfl (take_ofW HT_.out HW_.out (by kernel_rfl)) (fun _ _ _ h => h) (Or.inl ⟨by rfl, ?_⟩) hHeld ?_ ?_
              rotate_left
              ·rintro w' ⟨s0, s1, s2, s3, s4, s5⟩
               go_simp
               with_reducible rfl
              rotate_left
              ·simp only [Act.put, List.setIfInBounds_toArray, List.set_cons_zero, List.set_cons_succ, i64_w, i32_w]
               rfl
              refine one_ (i := 13) (N := some 68) (bitsL 29 32767) rfl rfl (one_of HT_.out (by kernel_rfl)) (by decide) (fun K hK => ?_)
              refine goes_ Tryd.func26 (by kernel_rfl) rfl #[.agg #[.string t497, .string t498]] (by rfl) rfl rfl am ?_
              with_reducible refine (addr_Addr_Key.calls kj13 t497 t498 t501 _ A49.out).mono ?_
              rintro e w102 ⟨rfl, hb⟩
              refine ⟨_, rfl, ?_⟩
              have n0_ := Aside0.mk (blk_below (g := gb479) (o := .cells #[.string a0_0, .string a0_1] 31 (0, 0)) bk hb)
              have n1_ := Aside0.mk (blk_below (g := gb483) (o := .cells #[.string t481, .string t482] 32 (0, 0)) bk hb)
              have n2_ := Aside0.mk (blk_below (g := gb488) (o := .cells #[.string t485, .string t486] 32 (0, 0)) bk hb)
              have n3_ := Aside0.mk (blk_below (g := gb495) (o := .cells #[.string t492, .string t493] 32 (0, 0)) bk hb)
              have n4_ := Aside0.mk (blk_below (g := gb500) (o := .cells #[.string t497, .string t498] 32 (0, 0)) bk hb)
              have n5_ := Aside0.mk (below_step (by repeat (first | (with_reducible first | exact HB.out | apply below_alloc | apply pw_below_drewN | apply below_drew1 | refine below_set ?_ GE479.out | refine below_set ?_ GE483.out | refine below_set ?_ GE488.out | refine below_set ?_ GE495.out | refine below_set ?_ GE500.out) | exact HB.out)) hb)
              clear BK479
              clear BK483
              clear BK488
              clear BK495
              clear BK500
              clear HB
              have BK479 := n0_
              have BK483 := n1_
              have BK488 := n2_
              have BK495 := n3_
              have BK500 := n4_
              have HB := n5_
              clear n0_ n1_ n2_ n3_ n4_ n5_
              (try clear hb)
              (try clear hb2)
              (try clear hk)
              (try clear hi)
              refine hK.out _ _ ⟨(blk_cell BK495.out 0).trans rfl, (blk_cell BK495.out 1).trans rfl, (blk_cell BK483.out 0).trans rfl, (blk_cell BK483.out 1).trans rfl, (blk_cell BK500.out 0).trans rfl, (blk_cell BK500.out 1).trans rfl⟩ (fun hHeld => ?_)
              clear hK K
              refine norm_ (a' := ?_) ?_ ?_
              rotate_left
              ·show Act.put _ (some 68) _ = _
               simp only [Act.put, List.setIfInBounds_toArray, List.set_cons_zero, List.set_cons_succ, i64_w, i32_w]
               rfl
              refine one_ (i := 15) (N := some 70) (bitsL 29 65535) rfl rfl (one_of HT_.out (by kernel_rfl)) (by decide) (fun K hK => ?_)
              refine goes_ Tryd.func26 (by kernel_rfl) rfl #[.agg #[.string t481, .string t482]] (by rfl) rfl rfl am ?_
              with_reducible refine (addr_Addr_Key.calls kj13 t481 t482 t502 _ A50.out).mono ?_
              rintro e w103 ⟨rfl, hb⟩
              refine ⟨_, rfl, ?_⟩
              have n0_ := Aside0.mk (blk_below (g := gb479) (o := .cells #[.string a0_0, .string a0_1] 31 (0, 0)) bk hb)
              have n1_ := Aside0.mk (blk_below (g := gb483) (o := .cells #[.string t481, .string t482] 32 (0, 0)) bk hb)
              have n2_ := Aside0.mk (blk_below (g := gb488) (o := .cells #[.string t485, .string t486] 32 (0, 0)) bk hb)
              have n3_ := Aside0.mk (blk_below (g := gb495) (o := .cells #[.string t492, .string t493] 32 (0, 0)) bk hb)
              have n4_ := Aside0.mk (blk_below (g := gb500) (o := .cells #[.string t497, .string t498] 32 (0, 0)) bk hb)
              have n5_ := Aside0.mk (below_step (by repeat (first | (with_reducible first | exact HB.out | apply below_alloc | apply pw_below_drewN | apply below_drew1 | refine below_set ?_ GE479.out | refine below_set ?_ GE483.out | refine below_set ?_ GE488.out | refine below_set ?_ GE495.out | refine below_set ?_ GE500.out) | exact HB.out)) hb)
              clear BK479
              clear BK483
              clear BK488
              clear BK495
              clear BK500
              clear HB
              have BK479 := n0_
              have BK483 := n1_
              have BK488 := n2_
              have BK495 := n3_
              have BK500 := n4_
              have HB := n5_
              clear n0_ n1_ n2_ n3_ n4_ n5_
              (try clear hb)
              (try clear hb2)
              (try clear hk)
              (try clear hi)
              refine hK.out _ _ ⟨(blk_cell BK495.out 0).trans rfl, (blk_cell BK495.out 1).trans rfl, (blk_cell BK483.out 0).trans rfl, (blk_cell BK483.out 1).trans rfl, (blk_cell BK500.out 0).trans rfl, (blk_cell BK500.out 1).trans rfl⟩ (fun hHeld => ?_)
              clear hK K
              refine norm_ (a' := ?_) ?_ ?_
              rotate_left
              ·show Act.put _ (some 70) _ = _
               simp only [Act.put, List.setIfInBounds_toArray, List.set_cons_zero, List.set_cons_succ, i64_w, i32_w]
               rfl
              refine pure_ (i := 16) (N := some 71) (v := ?_) (a' := ?_) (bitsL 29 131071) rfl rfl (any_of HT_.out (by kernel_rfl)) (fun _ _ _ h => h) (Or.inl ⟨by rfl, ?_⟩) ?_ ?_
              rotate_left
              ·intro w'
               go_simp
               with_reducible rfl
              rotate_left
              ·simp only [Act.put, List.setIfInBounds_toArray, List.set_cons_zero, List.set_cons_succ, i64_w, i32_w]
               rfl
              refine pure_ (i := 17) (N := some 72) (v := ?_) (a' := ?_) (bitsL 29 262143) rfl rfl (any_of HT_.out (by kernel_rfl)) (fun _ _ _ h => h) (Or.inl ⟨by rfl, ?_⟩) ?_ ?_
              rotate_left
              ·intro w'
               go_simp
               with_reducible rfl
              rotate_left
              ·simp only [Act.put, List.setIfInBounds_toArray, List.set_cons_zero, List.set_cons_succ, i64_w, i32_w]
               rfl
              refine pure_ (i := 18) (N := some 73) (v := ?_) (a' := ?_) (bitsL 29 524287) rfl rfl (any_of HT_.out (by kernel_rfl)) (fun _ _ _ h => h) (Or.inl ⟨by rfl, ?_⟩) ?_ ?_
              rotate_left
              ·intro w'
               go_simp
               with_reducible rfl
              rotate_left
              ·simp only [Act.put, List.setIfInBounds_toArray, List.set_cons_zero, List.set_cons_succ, i64_w, i32_w]
               rfl
              refine pure_ (i := 19) (N := some 74) (v := undef) (a' := ?_) (bitsL 29 1048575) rfl rfl (any_of HT_.out (by kernel_rfl)) (fun _ _ _ h => h) (Or.inr ⟨by rfl, rfl⟩) ?_ ?_
              rotate_left
              ·simp only [Act.put, List.setIfInBounds_toArray, List.set_cons_zero, List.set_cons_succ, i64_w, i32_w]
               rfl
              refine pure_ (i := 20) (N := some 75) (v := undef) (a' := ?_) (bitsL 29 2097151) rfl rfl (any_of HT_.out (by kernel_rfl)) (fun _ _ _ h => h) (Or.inr ⟨by rfl, rfl⟩) ?_ ?_
              rotate_left
              ·simp only [Act.put, List.setIfInBounds_toArray, List.set_cons_zero, List.set_cons_succ, i64_w, i32_w]
               rfl
              refine pure_ (i := 21) (N := some 76) (v := undef) (a' := ?_) (bitsL 29 4194303) rfl rfl (any_of HT_.out (by kernel_rfl)) (fun _ _ _ h => h) (Or.inr ⟨by rfl, rfl⟩) ?_ ?_
              rotate_left
              ·simp only [Act.put, List.setIfInBounds_toArray, List.set_cons_zero, List.set_cons_succ, i64_w, i32_w]
               rfl
              refine pure_ (i := 22) (N := some 77) (v := undef) (a' := ?_) (bitsL 29 8388607) rfl rfl (any_of HT_.out (by kernel_rfl)) (fun _ _ _ h => h) (Or.inr ⟨by rfl, rfl⟩) ?_ ?_
              rotate_left
              ·simp only [Act.put, List.setIfInBounds_toArray, List.set_cons_zero, List.set_cons_succ, i64_w, i32_w]
               rfl
              refine pure_ (i := 23) (N := some 78) (v := undef) (a' := ?_) (bitsL 29 16777215) rfl rfl (any_of HT_.out (by kernel_rfl)) (fun _ _ _ h => h) (Or.inr ⟨by rfl, rfl⟩) ?_ ?_
              rotate_left
              ·simp only [Act.put, List.setIfInBounds_toArray, List.set_cons_zero, List.set_cons_succ, i64_w, i32_w]
               rfl
              refine pure_ (i := 24) (N := some 79) (v := undef) (a' := ?_) (bitsL 29 33554431) rfl rfl (any_of HT_.out (by kernel_rfl)) (fun _ _ _ h => h) (Or.inr ⟨by rfl, rfl⟩) ?_ ?_
              rotate_left
              ·simp only [Act.put, List.setIfInBounds_toArray, List.set_cons_zero, List.set_cons_succ, i64_w, i32_w]
               rfl
              refine pure_ (i := 25) (N := some 80) (v := undef) (a' := ?_) (bitsL 29 67108863) rfl rfl (any_of HT_.out (by kernel_rfl)) (fun _ _ _ h => h) (Or.inr ⟨by rfl, rfl⟩) ?_ ?_
              rotate_left
              ·simp only [Act.put, List.setIfInBounds_toArray, List.set_cons_zero, List.set_cons_succ, i64_w, i32_w]
               rfl
              refine pure_ (i := 26) (N := some 81) (v := undef) (a' := ?_) (bitsL 29 134217727) rfl rfl (any_of HT_.out (by kernel_rfl)) (fun _ _ _ h => h) (Or.inr ⟨by rfl, rfl⟩) ?_ ?_
              rotate_left
              ·simp only [Act.put, List.setIfInBounds_toArray, List.set_cons_zero, List.set_cons_succ, i64_w, i32_w]
               rfl
              refine pure_ (i := 27) (N := some 82) (v := ?_) (a' := ?_) (bitsL 29 268435455) rfl rfl (any_of HT_.out (by kernel_rfl)) (fun _ _ _ h => h) (Or.inl ⟨by rfl, ?_⟩) ?_ ?_
              rotate_left
              ·intro w'
               go_simp
               with_reducible rfl
              rotate_left
              ·simp only [Act.put, List.setIfInBounds_toArray, List.set_cons_zero, List.set_cons_succ, i64_w, i32_w]
               rfl
              refine pure_ (i := 28) (N := some 2) (v := ?_) (a' := ?_) (bitsL 29 536870911) rfl rfl (any_of HT_.out (by kernel_rfl)) (fun _ _ _ h => h) (Or.inl ⟨by rfl, ?_⟩) ?_ ?_
              rotate_left
              ·intro w'
               go_simp
               with_reducible rfl
              rotate_left
              ·simp only [Act.put, List.setIfInBounds_toArray, List.set_cons_zero, List.set_cons_succ, i64_w, i32_w]
               rfl
              refine done_ (done_of HT_.out (by kernel_rfl)) ?_
              as_aux_lemma =>
               try go_wp2
               go_ret
               exact ⟨by first | rfl | (simp [errW_none, errW_some] <;> rfl) | (simp [*, errW_none, errW_some] <;> rfl), by repeat (first | (with_reducible first | exact HB.out | apply below_alloc | apply pw_below_drewN | apply below_drew1 | refine below_set ?_ GE479.out | refine below_set ?_ GE483.out | refine below_set ?_ GE488.out | refine below_set ?_ GE495.out | refine below_set ?_ GE500.out) | exact HB.out)⟩
           ·rw [if_neg c48] at H
            have c48b0 : (t499 == 0) = false := beq_eq_false_iff_ne.mpr c48
            have c48b1 : (t499 != 0) = true := bne_iff_ne.mpr c48
            obtain rfl := Option.some.inj H
            have hnb104 := NB483_479.out
            have hnc104 := NB479_483.out
            have hnb105 := NB483_488.out
            have hnc105 := NB488_483.out
            have hcz106_0 : wc.cell? ⟨gb483, 0, none⟩ = some (.string t481) := (blk_cell BK483.out 0).trans rfl
            have hcz106_1 : wc.cell? ⟨gb483, 1, none⟩ = some (.string t482) := (blk_cell BK483.out 1).trans rfl
            have hfz106_0 := blk_frozen BK483.out 0
            have hfz106_1 := blk_frozen BK483.out 1
            as_aux_lemma =>
             try go_wp2_with (first | ((with_reducible refine gate_callee (f := 25) rfl ?_); refine goesL_ (some 41) rfl rfl Tryd.func25 (by kernel_rfl) rfl #[.agg #[.string t481, .string t482]] rfl am ?_; (with_reducible refine (addr_Addr_Right.calls kj13 t481 t482 true _ A40.out).mono ?_); rintro e w107 ⟨rfl, hb⟩; refine ⟨_, rfl, ?_⟩; have n0_ := Aside0.mk (blk_below (g := gb479) (o := .cells #[.string a0_0, .string a0_1] 31 (0, 0)) bk hb); have n1_ := Aside0.mk (blk_below (g := gb483) (o := .cells #[.string t481, .string t482] 32 (0, 0)) bk hb); have n2_ := Aside0.mk (blk_below (g := gb488) (o := .cells #[.string t485, .string t486] 32 (0, 0)) bk hb); have n3_ := Aside0.mk (below_step (by repeat (first | (with_reducible first | exact HB.out | apply below_alloc | apply pw_below_drewN | apply below_drew1 | refine below_set ?_ GE479.out | refine below_set ?_ GE483.out | refine below_set ?_ GE488.out) | exact HB.out)) hb); clear BK479; clear BK483; clear BK488; clear HB; have BK479 := n0_; have BK483 := n1_; have BK488 := n2_; have HB := n3_; clear n0_ n1_ n2_ n3_; (try clear hb); (try clear hb2); (try clear hk); (try clear hi); have hcz108_0 : w107.cell? ⟨gb483, 0, none⟩ = some (.string t481) := (blk_cell BK483.out 0).trans rfl; have hcz108_1 : w107.cell? ⟨gb483, 1, none⟩ = some (.string t482) := (blk_cell BK483.out 1).trans rfl; have hfz108_0 := blk_frozen BK483.out 0; have hfz108_1 := blk_frozen BK483.out 1) | ((with_reducible refine gate_callee (f := 29) rfl ?_); refine goesL_ (some 45) rfl rfl Tryd.func29 (by kernel_rfl) rfl #[.agg #[.string t481, .string t482]] rfl am ?_; (with_reducible refine (addr_Addr_Text.calls kj13 t481 t482 t491 _ A42.out).mono ?_); rintro e w109 ⟨rfl, hb⟩; refine ⟨_, rfl, ?_⟩; have n0_ := Aside0.mk (blk_below (g := gb479) (o := .cells #[.string a0_0, .string a0_1] 31 (0, 0)) bk hb); have n1_ := Aside0.mk (blk_below (g := gb483) (o := .cells #[.string t481, .string t482] 32 (0, 0)) bk hb); have n2_ := Aside0.mk (blk_below (g := gb488) (o := .cells #[.string t485, .string t486] 32 (0, 0)) bk hb); have n3_ := Aside0.mk (below_step (by repeat (first | (with_reducible first | exact HB.out | apply below_alloc | apply pw_below_drewN | apply below_drew1 | refine below_set ?_ GE479.out | refine below_set ?_ GE483.out | refine below_set ?_ GE488.out) | exact HB.out)) hb); clear BK479; clear BK483; clear BK488; clear HB; have BK479 := n0_; have BK483 := n1_; have BK488 := n2_; have HB := n3_; clear n0_ n1_ n2_ n3_; (try clear hb); (try clear hb2); (try clear hk); (try clear hi)) | ((with_reducible refine gate_callee (f := 36) rfl ?_); refine goesL_ (some 46) rfl rfl Tryd.func36 (by kernel_rfl) rfl #[.string t491] rfl am ?_; (with_reducible refine (addr_Strict.calls kj13 t491 t492 t493 t494 _ A43.out).mono ?_); rintro e w110 ⟨rfl, hb⟩; refine ⟨_, rfl, ?_⟩; have n0_ := Aside0.mk (blk_below (g := gb479) (o := .cells #[.string a0_0, .string a0_1] 31 (0, 0)) bk hb); have n1_ := Aside0.mk (blk_below (g := gb483) (o := .cells #[.string t481, .string t482] 32 (0, 0)) bk hb); have n2_ := Aside0.mk (blk_below (g := gb488) (o := .cells #[.string t485, .string t486] 32 (0, 0)) bk hb); have n3_ := Aside0.mk (below_step (by repeat (first | (with_reducible first | exact HB.out | apply below_alloc | apply pw_below_drewN | apply below_drew1 | refine below_set ?_ GE479.out | refine below_set ?_ GE483.out | refine below_set ?_ GE488.out) | exact HB.out)) hb); clear BK479; clear BK483; clear BK488; clear HB; have BK479 := n0_; have BK483 := n1_; have BK488 := n2_; have HB := n3_; clear n0_ n1_ n2_ n3_; (try clear hb); (try clear hb2); (try clear hk); (try clear hi)) | ((with_reducible refine gate_dst (N := 6) rfl ?_); (try (refine gate_guard (by rfl) ?_; dsimp only)); refine box_event ?hg (N := 6) ?hd (cs := #[.string (⟨#[]⟩ : ByteArray), .string (⟨#[]⟩ : ByteArray)]) (t := 32) ?hr ?_; (case hd => rfl); (case hg => rfl); (case hr => first | (go_simp; done) | (go_simp; rfl)); intro gb495 hg w111 hbox hb; have n0_ := Aside0.mk (blk_below (g := gb479) (o := .cells #[.string a0_0, .string a0_1] 31 (0, 0)) bk hb); have n1_ := Aside0.mk (blk_below (g := gb483) (o := .cells #[.string t481, .string t482] 32 (0, 0)) bk hb); have n2_ := Aside0.mk (blk_below (g := gb488) (o := .cells #[.string t485, .string t486] 32 (0, 0)) bk hb); have n3_ := Aside0.mk (below_step (by repeat (first | (with_reducible first | exact HB.out | apply below_alloc | apply pw_below_drewN | apply below_drew1 | refine below_set ?_ GE479.out | refine below_set ?_ GE483.out | refine below_set ?_ GE488.out) | exact HB.out)) hb); have n4_ := Aside0.mk (hbox); have n5_ := Aside0.mk ((by rw [hg]; exact (below_size (by repeat (first | (with_reducible first | exact HB.out | apply below_alloc | apply pw_below_drewN | apply below_drew1 | refine below_set ?_ GE479.out | refine below_set ?_ GE483.out | refine below_set ?_ GE488.out) | exact HB.out))) : w.heap.size ≤ gb495)); have n6_ := Aside0.mk ((by rw [hg]; exact (below_size (by repeat (first | (with_reducible first | exact HB.out | apply below_alloc | apply pw_below_drewN | apply below_drew1 | refine below_set ?_ GE479.out | refine below_set ?_ GE483.out | refine below_set ?_ GE488.out) | exact HB.out))) : w.heap.size ≤ gb495)); have n7_ := Aside0.mk ((by rw [hg]; exact Nat.ne_of_lt (blk_lt (g := gb479) (o := .cells #[.string a0_0, .string a0_1] 31 (0, 0)) bk) : gb479 ≠ gb495)); have n8_ := Aside0.mk ((by rw [hg]; exact Nat.ne_of_gt (blk_lt (g := gb479) (o := .cells #[.string a0_0, .string a0_1] 31 (0, 0)) bk) : gb495 ≠ gb479)); have n9_ := Aside0.mk ((by rw [hg]; exact Nat.ne_of_lt (blk_lt (g := gb483) (o := .cells #[.string t481, .string t482] 32 (0, 0)) bk) : gb483 ≠ gb495)); have n10_ := Aside0.mk ((by rw [hg]; exact Nat.ne_of_gt (blk_lt (g := gb483) (o := .cells #[.string t481, .string t482] 32 (0, 0)) bk) : gb495 ≠ gb483)); have n11_ := Aside0.mk ((by rw [hg]; exact Nat.ne_of_lt (blk_lt (g := gb488) (o := .cells #[.string t485, .string t486] 32 (0, 0)) bk) : gb488 ≠ gb495)); have n12_ := Aside0.mk ((by rw [hg]; exact Nat.ne_of_gt (blk_lt (g := gb488) (o := .cells #[.string t485, .string t486] 32 (0, 0)) bk) : gb495 ≠ gb488)); clear BK479; clear BK483; clear BK488; clear HB; have BK479 := n0_; have BK483 := n1_; have BK488 := n2_; have HB := n3_; have BK495 := n4_; have GW495 := n5_; have GE495 := n6_; have NB479_495 := n7_; have NB495_479 := n8_; have NB483_495 := n9_; have NB495_483 := n10_; have NB488_495 := n11_; have NB495_488 := n12_; clear n0_ n1_ n2_ n3_ n4_ n5_ n6_ n7_ n8_ n9_ n10_ n11_ n12_; clear hb hbox hg; have hnb112 := NB495_479.out; have hnc112 := NB479_495.out; have hnb113 := NB495_483.out; have hnc113 := NB483_495.out; have hnb114 := NB495_488.out; have hnc114 := NB488_495.out; have hcz115_0 : w111.cell? ⟨gb495, 0, none⟩ = some (.string (⟨#[]⟩ : ByteArray)) := (blk_cell BK495.out 0).trans rfl; have hcz115_1 : w111.cell? ⟨gb495, 1, none⟩ = some (.string (⟨#[]⟩ : ByteArray)) := (blk_cell BK495.out 1).trans rfl; have hfz115_0 := blk_frozen BK495.out 0; have hfz115_1 := blk_frozen BK495.out 1; have hcz116_0 : w111.cell? ⟨gb483, 0, none⟩ = some (.string t481) := (blk_cell BK483.out 0).trans rfl; have hcz116_1 : w111.cell? ⟨gb483, 1, none⟩ = some (.string t482) := (blk_cell BK483.out 1).trans rfl; have hfz116_0 := blk_frozen BK483.out 0; have hfz116_1 := blk_frozen BK483.out 1) | ((with_reducible refine gate_callee (f := 26) rfl ?_); refine goesL_ (some 51) rfl rfl Tryd.func26 (by kernel_rfl) rfl #[.agg #[.string t481, .string t482]] rfl am ?_; (with_reducible refine (addr_Addr_Key.calls kj13 t481 t482 t496 _ A44.out).mono ?_); rintro e w117 ⟨rfl, hb⟩; refine ⟨_, rfl, ?_⟩; have n0_ := Aside0.mk (blk_below (g := gb479) (o := .cells #[.string a0_0, .string a0_1] 31 (0, 0)) (by (with_reducible repeat (first | refine blk_drewN ?_ _ | refine blk_drew ?_ | refine blk_alloc ?_ _)); refine blk_far ?_ NB479_495.out _; (with_reducible repeat (first | refine blk_drewN ?_ _ | refine blk_drew ?_ | refine blk_alloc ?_ _)); refine blk_far ?_ NB479_495.out _; (with_reducible repeat (first | refine blk_drewN ?_ _ | refine blk_drew ?_ | refine blk_alloc ?_ _)); exact BK479.out) hb); have n1_ := Aside0.mk (blk_below (g := gb483) (o := .cells #[.string t481, .string t482] 32 (0, 0)) (by (with_reducible repeat (first | refine blk_drewN ?_ _ | refine blk_drew ?_ | refine blk_alloc ?_ _)); refine blk_far ?_ NB483_495.out _; (with_reducible repeat (first | refine blk_drewN ?_ _ | refine blk_drew ?_ | refine blk_alloc ?_ _)); refine blk_far ?_ NB483_495.out _; (with_reducible repeat (first | refine blk_drewN ?_ _ | refine blk_drew ?_ | refine blk_alloc ?_ _)); exact BK483.out) hb); have n2_ := Aside0.mk (blk_below (g := gb488) (o := .cells #[.string t485, .string t486] 32 (0, 0)) (by (with_reducible repeat (first | refine blk_drewN ?_ _ | refine blk_drew ?_ | refine blk_alloc ?_ _)); refine blk_far ?_ NB488_495.out _; (with_reducible repeat (first | refine blk_drewN ?_ _ | refine blk_drew ?_ | refine blk_alloc ?_ _)); refine blk_far ?_ NB488_495.out _; (with_reducible repeat (first | refine blk_drewN ?_ _ | refine blk_drew ?_ | refine blk_alloc ?_ _)); exact BK488.out) hb); have n3_ := Aside0.mk (blk_below (g := gb495) (o := .cells #[.string t492, .string t493] 32 (0, 0)) (by (with_reducible repeat (first | refine blk_drewN ?_ _ | refine blk_drew ?_ | refine blk_alloc ?_ _)); refine blk_put (cs := #[.string t492, .string (⟨#[]⟩ : ByteArray)]) ?_ 1 _ rfl; (with_reducible repeat (first | refine blk_drewN ?_ _ | refine blk_drew ?_ | refine blk_alloc ?_ _)); refine blk_put (cs := #[.string (⟨#[]⟩ : ByteArray), .string (⟨#[]⟩ : ByteArray)]) ?_ 0 _ rfl; (with_reducible repeat (first | refine blk_drewN ?_ _ | refine blk_drew ?_ | refine blk_alloc ?_ _)); exact BK495.out) hb); have n4_ := Aside0.mk (below_step (by repeat (first | (with_reducible first | exact HB.out | apply below_alloc | apply pw_below_drewN | apply below_drew1 | refine below_set ?_ GE479.out | refine below_set ?_ GE483.out | refine below_set ?_ GE488.out | refine below_set ?_ GE495.out) | exact HB.out)) hb); clear BK479; clear BK483; clear BK488; clear BK495; clear HB; have BK479 := n0_; have BK483 := n1_; have BK488 := n2_; have BK495 := n3_; have HB := n4_; clear n0_ n1_ n2_ n3_ n4_; (try clear hb); (try clear hb2); (try clear hk); (try clear hi)) | ((with_reducible refine gate_callee (f := 35) rfl ?_); refine goesL_ (some 52) rfl rfl Tryd.func35 (by kernel_rfl) rfl #[.string t496] rfl am ?_; (with_reducible refine (addr_Parse.calls kj13 t496 t497 t498 t499 _ A45.out).mono ?_); rintro e w118 ⟨rfl, hb⟩; refine ⟨_, rfl, ?_⟩; have n0_ := Aside0.mk (blk_below (g := gb479) (o := .cells #[.string a0_0, .string a0_1] 31 (0, 0)) bk hb); have n1_ := Aside0.mk (blk_below (g := gb483) (o := .cells #[.string t481, .string t482] 32 (0, 0)) bk hb); have n2_ := Aside0.mk (blk_below (g := gb488) (o := .cells #[.string t485, .string t486] 32 (0, 0)) bk hb); have n3_ := Aside0.mk (blk_below (g := gb495) (o := .cells #[.string t492, .string t493] 32 (0, 0)) bk hb); have n4_ := Aside0.mk (below_step (by repeat (first | (with_reducible first | exact HB.out | apply below_alloc | apply pw_below_drewN | apply below_drew1 | refine below_set ?_ GE479.out | refine below_set ?_ GE483.out | refine below_set ?_ GE488.out | refine below_set ?_ GE495.out) | exact HB.out)) hb); clear BK479; clear BK483; clear BK488; clear BK495; clear HB; have BK479 := n0_; have BK483 := n1_; have BK488 := n2_; have BK495 := n3_; have HB := n4_; clear n0_ n1_ n2_ n3_ n4_; (try clear hb); (try clear hb2); (try clear hk); (try clear hi)) | ((with_reducible refine gate_dst (N := 8) rfl ?_); (try (refine gate_guard (by rfl) ?_; dsimp only)); refine box_event ?hg (N := 8) ?hd (cs := #[.string (⟨#[]⟩ : ByteArray), .string (⟨#[]⟩ : ByteArray)]) (t := 32) ?hr ?_; (case hd => rfl); (case hg => rfl); (case hr => first | (go_simp; done) | (go_simp; rfl)); intro gb500 hg w119 hbox hb; have n0_ := Aside0.mk (blk_below (g := gb479) (o := .cells #[.string a0_0, .string a0_1] 31 (0, 0)) bk hb); have n1_ := Aside0.mk (blk_below (g := gb483) (o := .cells #[.string t481, .string t482] 32 (0, 0)) bk hb); have n2_ := Aside0.mk (blk_below (g := gb488) (o := .cells #[.string t485, .string t486] 32 (0, 0)) bk hb); have n3_ := Aside0.mk (blk_below (g := gb495) (o := .cells #[.string t492, .string t493] 32 (0, 0)) bk hb); have n4_ := Aside0.mk (below_step (by repeat (first | (with_reducible first | exact HB.out | apply below_alloc | apply pw_below_drewN | apply below_drew1 | refine below_set ?_ GE479.out | refine below_set ?_ GE483.out | refine below_set ?_ GE488.out | refine below_set ?_ GE495.out) | exact HB.out)) hb); have n5_ := Aside0.mk (hbox); have n6_ := Aside0.mk ((by rw [hg]; exact (below_size (by repeat (first | (with_reducible first | exact HB.out | apply below_alloc | apply pw_below_drewN | apply below_drew1 | refine below_set ?_ GE479.out | refine below_set ?_ GE483.out | refine below_set ?_ GE488.out | refine below_set ?_ GE495.out) | exact HB.out))) : w.heap.size ≤ gb500)); have n7_ := Aside0.mk ((by rw [hg]; exact (below_size (by repeat (first | (with_reducible first | exact HB.out | apply below_alloc | apply pw_below_drewN | apply below_drew1 | refine below_set ?_ GE479.out | refine below_set ?_ GE483.out | refine below_set ?_ GE488.out | refine below_set ?_ GE495.out) | exact HB.out))) : w.heap.size ≤ gb500)); have n8_ := Aside0.mk ((by rw [hg]; exact Nat.ne_of_lt (blk_lt (g := gb479) (o := .cells #[.string a0_0, .string a0_1] 31 (0, 0)) bk) : gb479 ≠ gb500)); have n9_ := Aside0.mk ((by rw [hg]; exact Nat.ne_of_gt (blk_lt (g := gb479) (o := .cells #[.string a0_0, .string a0_1] 31 (0, 0)) bk) : gb500 ≠ gb479)); have n10_ := Aside0.mk ((by rw [hg]; exact Nat.ne_of_lt (blk_lt (g := gb483) (o := .cells #[.string t481, .string t482] 32 (0, 0)) bk) : gb483 ≠ gb500)); have n11_ := Aside0.mk ((by rw [hg]; exact Nat.ne_of_gt (blk_lt (g := gb483) (o := .cells #[.string t481, .string t482] 32 (0, 0)) bk) : gb500 ≠ gb483)); have n12_ := Aside0.mk ((by rw [hg]; exact Nat.ne_of_lt (blk_lt (g := gb488) (o := .cells #[.string t485, .string t486] 32 (0, 0)) bk) : gb488 ≠ gb500)); have n13_ := Aside0.mk ((by rw [hg]; exact Nat.ne_of_gt (blk_lt (g := gb488) (o := .cells #[.string t485, .string t486] 32 (0, 0)) bk) : gb500 ≠ gb488)); have n14_ := Aside0.mk ((by rw [hg]; exact Nat.ne_of_lt (blk_lt (g := gb495) (o := .cells #[.string t492, .string t493] 32 (0, 0)) bk) : gb495 ≠ gb500)); have n15_ := Aside0.mk ((by rw [hg]; exact Nat.ne_of_gt (blk_lt (g := gb495) (o := .cells #[.string t492, .string t493] 32 (0, 0)) bk) : gb500 ≠ gb495)); clear BK479; clear BK483; clear BK488; clear BK495; clear HB; have BK479 := n0_; have BK483 := n1_; have BK488 := n2_; have BK495 := n3_; have HB := n4_; have BK500 := n5_; have GW500 := n6_; have GE500 := n7_; have NB479_500 := n8_; have NB500_479 := n9_; have NB483_500 := n10_; have NB500_483 := n11_; have NB488_500 := n12_; have NB500_488 := n13_; have NB495_500 := n14_; have NB500_495 := n15_; clear n0_ n1_ n2_ n3_ n4_ n5_ n6_ n7_ n8_ n9_ n10_ n11_ n12_ n13_ n14_ n15_; clear hb hbox hg; have hnb120 := NB500_479.out; have hnc120 := NB479_500.out; have hnb121 := NB500_483.out; have hnc121 := NB483_500.out; have hnb122 := NB500_488.out; have hnc122 := NB488_500.out; have hnb123 := NB500_495.out; have hnc123 := NB495_500.out; have hcz124_0 : w119.cell? ⟨gb500, 0, none⟩ = some (.string (⟨#[]⟩ : ByteArray)) := (blk_cell BK500.out 0).trans rfl; have hcz124_1 : w119.cell? ⟨gb500, 1, none⟩ = some (.string (⟨#[]⟩ : ByteArray)) := (blk_cell BK500.out 1).trans rfl; have hfz124_0 := blk_frozen BK500.out 0; have hfz124_1 := blk_frozen BK500.out 1))
             have n0_ : Aside0 (((w119.setCell ⟨gb500, 0, none⟩ (.string t497)).setCell ⟨gb500, 1, none⟩ (.string t498)).heap[gb479]? = some (.cells #[.string a0_0, .string a0_1] 31 (0, 0))) := ⟨by (with_reducible repeat (first | refine blk_drewN ?_ _ | refine blk_drew ?_ | refine blk_alloc ?_ _)); refine blk_far ?_ NB479_500.out _; (with_reducible repeat (first | refine blk_drewN ?_ _ | refine blk_drew ?_ | refine blk_alloc ?_ _)); refine blk_far ?_ NB479_500.out _; (with_reducible repeat (first | refine blk_drewN ?_ _ | refine blk_drew ?_ | refine blk_alloc ?_ _)); exact BK479.out⟩
             have n1_ : Aside0 (((w119.setCell ⟨gb500, 0, none⟩ (.string t497)).setCell ⟨gb500, 1, none⟩ (.string t498)).heap[gb483]? = some (.cells #[.string t481, .string t482] 32 (0, 0))) := ⟨by (with_reducible repeat (first | refine blk_drewN ?_ _ | refine blk_drew ?_ | refine blk_alloc ?_ _)); refine blk_far ?_ NB483_500.out _; (with_reducible repeat (first | refine blk_drewN ?_ _ | refine blk_drew ?_ | refine blk_alloc ?_ _)); refine blk_far ?_ NB483_500.out _; (with_reducible repeat (first | refine blk_drewN ?_ _ | refine blk_drew ?_ | refine blk_alloc ?_ _)); exact BK483.out⟩
             have n2_ : Aside0 (((w119.setCell ⟨gb500, 0, none⟩ (.string t497)).setCell ⟨gb500, 1, none⟩ (.string t498)).heap[gb488]? = some (.cells #[.string t485, .string t486] 32 (0, 0))) := ⟨by (with_reducible repeat (first | refine blk_drewN ?_ _ | refine blk_drew ?_ | refine blk_alloc ?_ _)); refine blk_far ?_ NB488_500.out _; (with_reducible repeat (first | refine blk_drewN ?_ _ | refine blk_drew ?_ | refine blk_alloc ?_ _)); refine blk_far ?_ NB488_500.out _; (with_reducible repeat (first | refine blk_drewN ?_ _ | refine blk_drew ?_ | refine blk_alloc ?_ _)); exact BK488.out⟩
             have n3_ : Aside0 (((w119.setCell ⟨gb500, 0, none⟩ (.string t497)).setCell ⟨gb500, 1, none⟩ (.string t498)).heap[gb495]? = some (.cells #[.string t492, .string t493] 32 (0, 0))) := ⟨by (with_reducible repeat (first | refine blk_drewN ?_ _ | refine blk_drew ?_ | refine blk_alloc ?_ _)); refine blk_far ?_ NB495_500.out _; (with_reducible repeat (first | refine blk_drewN ?_ _ | refine blk_drew ?_ | refine blk_alloc ?_ _)); refine blk_far ?_ NB495_500.out _; (with_reducible repeat (first | refine blk_drewN ?_ _ | refine blk_drew ?_ | refine blk_alloc ?_ _)); exact BK495.out⟩
             have n4_ : Aside0 (((w119.setCell ⟨gb500, 0, none⟩ (.string t497)).setCell ⟨gb500, 1, none⟩ (.string t498)).heap[gb500]? = some (.cells #[.string t497, .string t498] 32 (0, 0))) := ⟨by (with_reducible repeat (first | refine blk_drewN ?_ _ | refine blk_drew ?_ | refine blk_alloc ?_ _)); refine blk_put (cs := #[.string t497, .string (⟨#[]⟩ : ByteArray)]) ?_ 1 _ rfl; (with_reducible repeat (first | refine blk_drewN ?_ _ | refine blk_drew ?_ | refine blk_alloc ?_ _)); refine blk_put (cs := #[.string (⟨#[]⟩ : ByteArray), .string (⟨#[]⟩ : ByteArray)]) ?_ 0 _ rfl; (with_reducible repeat (first | refine blk_drewN ?_ _ | refine blk_drew ?_ | refine blk_alloc ?_ _)); exact BK500.out⟩
             have n5_ : Aside0 (Below w.heap.size w ((w119.setCell ⟨gb500, 0, none⟩ (.string t497)).setCell ⟨gb500, 1, none⟩ (.string t498))) := ⟨by repeat (first | (with_reducible first | exact HB.out | apply below_alloc | apply pw_below_drewN | apply below_drew1 | refine below_set ?_ GE479.out | refine below_set ?_ GE483.out | refine below_set ?_ GE488.out | refine below_set ?_ GE495.out | refine below_set ?_ GE500.out) | exact HB.out)⟩
             (try clear BK479)
             (try clear BK483)
             (try clear BK488)
             (try clear BK495)
             (try clear BK500)
             (try clear HB)
             generalize ((w119.setCell ⟨gb500, 0, none⟩ (.string t497)).setCell ⟨gb500, 1, none⟩ (.string t498)) = w125 at n0_ n1_ n2_ n3_ n4_ n5_ ⊢
             have BK479 := n0_
             have BK483 := n1_
             have BK488 := n2_
             have BK495 := n3_
             have BK500 := n4_
             have HB := n5_
             clear n0_ n1_ n2_ n3_ n4_ n5_
             have n0_ := Aside0.mk (blk_drew BK479.out)
             have n1_ := Aside0.mk (blk_drew BK483.out)
             have n2_ := Aside0.mk (blk_drew BK488.out)
             have n3_ := Aside0.mk (blk_drew BK495.out)
             have n4_ := Aside0.mk (blk_drew BK500.out)
             have n5_ := Aside0.mk (below_drew1 HB.out)
             clear BK479
             clear BK483
             clear BK488
             clear BK495
             clear BK500
             clear HB
             have BK479 := n0_
             have BK483 := n1_
             have BK488 := n2_
             have BK495 := n3_
             have BK500 := n4_
             have HB := n5_
             clear n0_ n1_ n2_ n3_ n4_ n5_
             refine start_ (n := 29) (S := fun w' => w'.cell? ⟨gb495, 0, none⟩ = some (.string t492) ∧ w'.cell? ⟨gb495, 1, none⟩ = some (.string t493) ∧ w'.cell? ⟨gb483, 0, none⟩ = some (.string t481) ∧ w'.cell? ⟨gb483, 1, none⟩ = some (.string t482)) (ds := []) #[false, false, false, false, false, false, false, false, false, false, false, false, false, false, false, false, false, false, false, false, false, false, false, false, false, false, false, false, false] (by kernel_rfl) rfl rfl ⟨(blk_cell BK495.out 0).trans rfl, (blk_cell BK495.out 1).trans rfl, (blk_cell BK483.out 0).trans rfl, (blk_cell BK483.out 1).trans rfl⟩ (fun hHeld => ?_); refine with_tabW bulletinlaw13_AddrBack.tab13 bulletinlaw13_AddrBack.bits13 (fun HT_ HW_ => ?_)
             generalize w125.drew = w126 at BK479 BK483 BK488 BK495 BK500 HB hHeld ⊢
             refine pure_ (i := 0) (N := some 55) (v := ?_) (a' := ?_) (bitsL 29 1) rfl rfl (any_of HT_.out (by kernel_rfl)) (fun _ _ _ h => h) (Or.inl ⟨by rfl, ?_⟩) ?_ ?_
             rotate_left
             ·intro w'
              go_simp
              with_reducible rfl
             rotate_left
             ·simp only [Act.put, List.setIfInBounds_toArray, List.set_cons_zero, List.set_cons_succ, i64_w, i32_w]
              rfl
             refine pure_ (i := 1) (N := some 56) (v := ?_) (a' := ?_) (bitsL 29 3) rfl rfl (any_of HT_.out (by kernel_rfl)) (fun _ _ _ h => h) (Or.inl ⟨by rfl, ?_⟩) ?_ ?_
             rotate_left
             ·intro w'
              go_simp
              with_reducible rfl
             rotate_left
             ·simp only [Act.put, List.setIfInBounds_toArray, List.set_cons_zero, List.set_cons_succ, i64_w, i32_w]
              rfl
             refine pure_ (i := 2) (N := some 57) (v := ?_) (a' := ?_) (bitsL 29 7) rfl rfl (any_of HT_.out (by kernel_rfl)) (fun _ _ _ h => h) (Or.inl ⟨by rfl, ?_⟩) ?_ ?_
             rotate_left
             ·intro w'
              go_simp
              with_reducible rfl
             rotate_left
             ·simp only [Act.put, List.setIfInBounds_toArray, List.set_cons_zero, List.set_cons_succ, i64_w, i32_w]
              rfl
             refine take_ (i := 3) (N := some 58) (v := ?_) (a' := ?_) (bitsL 29 15) rfl rfl (take_ofW HT_.out HW_.out (by kernel_rfl)) (fun _ _ _ h => h) (Or.inl ⟨by rfl, ?_⟩) hHeld ?_ ?_
             rotate_left
             ·rintro w' ⟨s0, s1, s2, s3⟩
              go_simp
              with_reducible rfl
             rotate_left
             ·simp only [Act.put, List.setIfInBounds_toArray, List.set_cons_zero, List.set_cons_succ, i64_w, i32_w]
              rfl
             refine take_ (i := 4) (N := some 59) (v := ?_) (a' := ?_) (bitsL 29 31) rfl rfl (take_ofW HT_.out HW_.out (by kernel_rfl)) (fun _ _ _ h => h) (Or.inl ⟨by rfl, ?_⟩) hHeld ?_ ?_
             rotate_left
             ·rintro w' ⟨s0, s1, s2, s3⟩
              go_simp
              with_reducible rfl
             rotate_left
             ·simp only [Act.put, List.setIfInBounds_toArray, List.set_cons_zero, List.set_cons_succ, i64_w, i32_w]
              rfl
             refine pure_ (i := 5) (N := some 60) (v := ?_) (a' := ?_) (bitsL 29 63) rfl rfl (any_of HT_.out (by kernel_rfl)) (fun _ _ _ h => h) (Or.inl ⟨by rfl, ?_⟩) ?_ ?_
             rotate_left
             ·intro w'
              go_simp
              with_reducible rfl
             rotate_left
             ·simp only [Act.put, List.setIfInBounds_toArray, List.set_cons_zero, List.set_cons_succ, i64_w, i32_w]
              rfl
             refine pure_ (i := 6) (N := some 61) (v := ?_) (a' := ?_) (bitsL 29 127) rfl rfl (any_of HT_.out (by kernel_rfl)) (fun _ _ _ h => h) (Or.inl ⟨by rfl, ?_⟩) ?_ ?_
             rotate_left
             ·intro w'
              go_simp
              with_reducible rfl
             rotate_left
             ·simp only [Act.put, List.setIfInBounds_toArray, List.set_cons_zero, List.set_cons_succ, i64_w, i32_w]
              rfl
             refine pure_ (i := 7) (N := some 62) (v := ?_) (a' := ?_) (bitsL 29 255) rfl rfl (any_of HT_.out (by kernel_rfl)) (fun _ _ _ h => h) (Or.inl ⟨by rfl, ?_⟩) ?_ ?_
             rotate_left
             ·intro w'
              go_simp
              with_reducible rfl
             rotate_left
             ·simp only [Act.put, List.setIfInBounds_toArray, List.set_cons_zero, List.set_cons_succ, i64_w, i32_w]
              rfl
             refine pure_ (i := 8) (N := some 63) (v := ?_) (a' := ?_) (bitsL 29 511) rfl rfl (any_of HT_.out (by kernel_rfl)) (fun _ _ _ h => h) (Or.inl ⟨by rfl, ?_⟩) ?_ ?_
             rotate_left
             ·intro w'
              go_simp
              with_reducible rfl
             rotate_left
             ·simp only [Act.put, List.setIfInBounds_toArray, List.set_cons_zero, List.set_cons_succ, i64_w, i32_w]
              rfl
             refine pure_ (i := 9) (N := some 64) (v := ?_) (a' := ?_) (bitsL 29 1023) rfl rfl (any_of HT_.out (by kernel_rfl)) (fun _ _ _ h => h) (Or.inl ⟨by rfl, ?_⟩) ?_ ?_
             rotate_left
             ·intro w'
              go_simp
              with_reducible rfl
             rotate_left
             ·simp only [Act.put, List.setIfInBounds_toArray, List.set_cons_zero, List.set_cons_succ, i64_w, i32_w]
              rfl
             refine pure_ (i := 10) (N := some 65) (v := ?_) (a' := ?_) (bitsL 29 2047) rfl rfl (any_of HT_.out (by kernel_rfl)) (fun _ _ _ h => h) (Or.inl ⟨by rfl, ?_⟩) ?_ ?_
             rotate_left
             ·intro w'
              go_simp
              with_reducible rfl
             rotate_left
             ·simp only [Act.put, List.setIfInBounds_toArray, List.set_cons_zero, List.set_cons_succ, i64_w, i32_w]
              rfl
             refine pure_ (i := 11) (N := some 66) (v := ?_) (a' := ?_) (bitsL 29 4095) rfl rfl (any_of HT_.out (by kernel_rfl)) (fun _ _ _ h => h) (Or.inl ⟨by rfl, ?_⟩) ?_ ?_
             rotate_left
             ·intro w'
              go_simp
              with_reducible rfl
             rotate_left
             ·simp only [Act.put, List.setIfInBounds_toArray, List.set_cons_zero, List.set_cons_succ, i64_w, i32_w]
              rfl
             refine pure_ (i := 12) (N := some 67) (v := undef) (a' := ?_) (bitsL 29 8191) rfl rfl (any_of HT_.out (by kernel_rfl)) (fun _ _ _ h => h) (Or.inr ⟨by rfl, rfl⟩) ?_ ?_
             rotate_left
             ·simp only [Act.put, List.setIfInBounds_toArray, List.set_cons_zero, List.set_cons_succ, i64_w, i32_w]
              rfl
             refine pure_ (i := 13) (N := some 68) (v := undef) (a' := ?_) (bitsL 29 16383) rfl rfl (any_of HT_.out (by kernel_rfl)) (fun _ _ _ h => h) (Or.inr ⟨by rfl, rfl⟩) ?_ ?_
             rotate_left
             ·simp only [Act.put, List.setIfInBounds_toArray, List.set_cons_zero, List.set_cons_succ, i64_w, i32_w]
              rfl
             refine pure_ (i := 14) (N := some 69) (v := undef) (a' := ?_) (bitsL 29 32767) rfl rfl (any_of HT_.out (by kernel_rfl)) (fun _ _ _ h => h) (Or.inr ⟨by rfl, rfl⟩) ?_ ?_
             rotate_left
             ·simp only [Act.put, List.setIfInBounds_toArray, List.set_cons_zero, List.set_cons_succ, i64_w, i32_w]
              rfl
             refine pure_ (i := 15) (N := some 70) (v := undef) (a' := ?_) (bitsL 29 65535) rfl rfl (any_of HT_.out (by kernel_rfl)) (fun _ _ _ h => h) (Or.inr ⟨by rfl, rfl⟩) ?_ ?_
             rotate_left
             ·simp only [Act.put, List.setIfInBounds_toArray, List.set_cons_zero, List.set_cons_succ, i64_w, i32_w]
              rfl
             refine pure_ (i := 16) (N := some 71) (v := undef) (a' := ?_) (bitsL 29 131071) rfl rfl (any_of HT_.out (by kernel_rfl)) (fun _ _ _ h => h) (Or.inr ⟨by rfl, rfl⟩) ?_ ?_
             rotate_left
             ·simp only [Act.put, List.setIfInBounds_toArray, List.set_cons_zero, List.set_cons_succ, i64_w, i32_w]
              rfl
             refine pure_ (i := 17) (N := some 72) (v := ?_) (a' := ?_) (bitsL 29 262143) rfl rfl (any_of HT_.out (by kernel_rfl)) (fun _ _ _ h => h) (Or.inl ⟨by rfl, ?_⟩) ?_ ?_
             rotate_left
             ·intro w'
              go_simp
              with_reducible rfl
             rotate_left
             ·simp only [Act.put, List.setIfInBounds_toArray, List.set_cons_zero, List.set_cons_succ, i64_w, i32_w]
              rfl
             refine pure_ (i := 18) (N := some 73) (v := ?_) (a' := ?_) (bitsL 29 524287) rfl rfl (any_of HT_.out (by kernel_rfl)) (fun _ _ _ h => h) (Or.inl ⟨by rfl, ?_⟩) ?_ ?_
             rotate_left
             ·intro w'
              go_simp
              with_reducible rfl
             rotate_left
             ·simp only [Act.put, List.setIfInBounds_toArray, List.set_cons_zero, List.set_cons_succ, i64_w, i32_w]
              rfl
             refine pure_ (i := 19) (N := some 74) (v := undef) (a' := ?_) (bitsL 29 1048575) rfl rfl (any_of HT_.out (by kernel_rfl)) (fun _ _ _ h => h) (Or.inr ⟨by rfl, rfl⟩) ?_ ?_
             rotate_left
             ·simp only [Act.put, List.setIfInBounds_toArray, List.set_cons_zero, List.set_cons_succ, i64_w, i32_w]
              rfl
             refine pure_ (i := 20) (N := some 75) (v := undef) (a' := ?_) (bitsL 29 2097151) rfl rfl (any_of HT_.out (by kernel_rfl)) (fun _ _ _ h => h) (Or.inr ⟨by rfl, rfl⟩) ?_ ?_
             rotate_left
             ·simp only [Act.put, List.setIfInBounds_toArray, List.set_cons_zero, List.set_cons_succ, i64_w, i32_w]
              rfl
             refine pure_ (i := 21) (N := some 76) (v := undef) (a' := ?_) (bitsL 29 4194303) rfl rfl (any_of HT_.out (by kernel_rfl)) (fun _ _ _ h => h) (Or.inr ⟨by rfl, rfl⟩) ?_ ?_
             rotate_left
             ·simp only [Act.put, List.setIfInBounds_toArray, List.set_cons_zero, List.set_cons_succ, i64_w, i32_w]
              rfl
             refine pure_ (i := 22) (N := some 77) (v := undef) (a' := ?_) (bitsL 29 8388607) rfl rfl (any_of HT_.out (by kernel_rfl)) (fun _ _ _ h => h) (Or.inr ⟨by rfl, rfl⟩) ?_ ?_
             rotate_left
             ·simp only [Act.put, List.setIfInBounds_toArray, List.set_cons_zero, List.set_cons_succ, i64_w, i32_w]
              rfl
             refine pure_ (i := 23) (N := some 78) (v := undef) (a' := ?_) (bitsL 29 16777215) rfl rfl (any_of HT_.out (by kernel_rfl)) (fun _ _ _ h => h) (Or.inr ⟨by rfl, rfl⟩) ?_ ?_
             rotate_left
             ·simp only [Act.put, List.setIfInBounds_toArray, List.set_cons_zero, List.set_cons_succ, i64_w, i32_w]
              rfl
             refine pure_ (i := 24) (N := some 79) (v := undef) (a' := ?_) (bitsL 29 33554431) rfl rfl (any_of HT_.out (by kernel_rfl)) (fun _ _ _ h => h) (Or.inr ⟨by rfl, rfl⟩) ?_ ?_
             rotate_left
             ·simp only [Act.put, List.setIfInBounds_toArray, List.set_cons_zero, List.set_cons_succ, i64_w, i32_w]
              rfl
             refine pure_ (i := 25) (N := some 80) (v := undef) (a' := ?_) (bitsL 29 67108863) rfl rfl (any_of HT_.out (by kernel_rfl)) (fun _ _ _ h => h) (Or.inr ⟨by rfl, rfl⟩) ?_ ?_
             rotate_left
             ·simp only [Act.put, List.setIfInBounds_toArray, List.set_cons_zero, List.set_cons_succ, i64_w, i32_w]
              rfl
             refine pure_ (i := 26) (N := some 81) (v := undef) (a' := ?_) (bitsL 29 134217727) rfl rfl (any_of HT_.out (by kernel_rfl)) (fun _ _ _ h => h) (Or.inr ⟨by rfl, rfl⟩) ?_ ?_
             rotate_left
             ·simp only [Act.put, List.setIfInBounds_toArray, List.set_cons_zero, List.set_cons_succ, i64_w, i32_w]
              rfl
             refine pure_ (i := 27) (N := some 82) (v := ?_) (a' := ?_) (bitsL 29 268435455) rfl rfl (any_of HT_.out (by kernel_rfl)) (fun _ _ _ h => h) (Or.inl ⟨by rfl, ?_⟩) ?_ ?_
             rotate_left
             ·intro w'
              go_simp
              with_reducible rfl
             rotate_left
             ·simp only [Act.put, List.setIfInBounds_toArray, List.set_cons_zero, List.set_cons_succ, i64_w, i32_w]
              rfl
             refine pure_ (i := 28) (N := some 2) (v := ?_) (a' := ?_) (bitsL 29 536870911) rfl rfl (any_of HT_.out (by kernel_rfl)) (fun _ _ _ h => h) (Or.inl ⟨by rfl, ?_⟩) ?_ ?_
             rotate_left
             ·intro w'
              go_simp
              with_reducible rfl
             rotate_left
             ·simp only [Act.put, List.setIfInBounds_toArray, List.set_cons_zero, List.set_cons_succ, i64_w, i32_w]
              rfl
             refine done_ (done_of HT_.out (by kernel_rfl)) ?_
             as_aux_lemma =>
              try go_wp2
              go_ret
              exact ⟨by first | rfl | (simp [errW_none, errW_some] <;> rfl) | (simp [*, errW_none, errW_some] <;> rfl), by repeat (first | (with_reducible first | exact HB.out | apply below_alloc | apply pw_below_drewN | apply below_drew1 | refine below_set ?_ GE479.out | refine below_set ?_ GE483.out | refine below_set ?_ GE488.out | refine below_set ?_ GE495.out | refine below_set ?_ GE500.out) | exact HB.out)⟩
          ·rw [if_neg c47] at H
           have c47b0 : (t492.toList == t481.toList && (t493.toList == t482.toList)) = false := by simpa using c47
           (try (have c47b1 : decide (t492.toList = t481.toList && (t493.toList == t482.toList)) = false := by simpa using c47))
           (try (have c47b2 : (t492.toList == t481.toList && (t493.toList == t482.toList)) = false := by simpa using c47))
           (try (have c47b3 : ¬ (t492.toList = t481.toList && (t493.toList == t482.toList)) := by simpa using c47))
           clear c47
           obtain rfl := Option.some.inj H
           have hnb127 := NB483_479.out
           have hnc127 := NB479_483.out
           have hnb128 := NB483_488.out
           have hnc128 := NB488_483.out
           have hcz129_0 : wc.cell? ⟨gb483, 0, none⟩ = some (.string t481) := (blk_cell BK483.out 0).trans rfl
           have hcz129_1 : wc.cell? ⟨gb483, 1, none⟩ = some (.string t482) := (blk_cell BK483.out 1).trans rfl
           have hfz129_0 := blk_frozen BK483.out 0
           have hfz129_1 := blk_frozen BK483.out 1
           as_aux_lemma =>
            try go_wp2_with (first | ((with_reducible refine gate_callee (f := 25) rfl ?_); refine goesL_ (some 41) rfl rfl Tryd.func25 (by kernel_rfl) rfl #[.agg #[.string t481, .string t482]] rfl am ?_; (with_reducible refine (addr_Addr_Right.calls kj13 t481 t482 true _ A40.out).mono ?_); rintro e w130 ⟨rfl, hb⟩; refine ⟨_, rfl, ?_⟩; have n0_ := Aside0.mk (blk_below (g := gb479) (o := .cells #[.string a0_0, .string a0_1] 31 (0, 0)) bk hb); have n1_ := Aside0.mk (blk_below (g := gb483) (o := .cells #[.string t481, .string t482] 32 (0, 0)) bk hb); have n2_ := Aside0.mk (blk_below (g := gb488) (o := .cells #[.string t485, .string t486] 32 (0, 0)) bk hb); have n3_ := Aside0.mk (below_step (by repeat (first | (with_reducible first | exact HB.out | apply below_alloc | apply pw_below_drewN | apply below_drew1 | refine below_set ?_ GE479.out | refine below_set ?_ GE483.out | refine below_set ?_ GE488.out) | exact HB.out)) hb); clear BK479; clear BK483; clear BK488; clear HB; have BK479 := n0_; have BK483 := n1_; have BK488 := n2_; have HB := n3_; clear n0_ n1_ n2_ n3_; (try clear hb); (try clear hb2); (try clear hk); (try clear hi); have hcz131_0 : w130.cell? ⟨gb483, 0, none⟩ = some (.string t481) := (blk_cell BK483.out 0).trans rfl; have hcz131_1 : w130.cell? ⟨gb483, 1, none⟩ = some (.string t482) := (blk_cell BK483.out 1).trans rfl; have hfz131_0 := blk_frozen BK483.out 0; have hfz131_1 := blk_frozen BK483.out 1) | ((with_reducible refine gate_callee (f := 29) rfl ?_); refine goesL_ (some 45) rfl rfl Tryd.func29 (by kernel_rfl) rfl #[.agg #[.string t481, .string t482]] rfl am ?_; (with_reducible refine (addr_Addr_Text.calls kj13 t481 t482 t491 _ A42.out).mono ?_); rintro e w132 ⟨rfl, hb⟩; refine ⟨_, rfl, ?_⟩; have n0_ := Aside0.mk (blk_below (g := gb479) (o := .cells #[.string a0_0, .string a0_1] 31 (0, 0)) bk hb); have n1_ := Aside0.mk (blk_below (g := gb483) (o := .cells #[.string t481, .string t482] 32 (0, 0)) bk hb); have n2_ := Aside0.mk (blk_below (g := gb488) (o := .cells #[.string t485, .string t486] 32 (0, 0)) bk hb); have n3_ := Aside0.mk (below_step (by repeat (first | (with_reducible first | exact HB.out | apply below_alloc | apply pw_below_drewN | apply below_drew1 | refine below_set ?_ GE479.out | refine below_set ?_ GE483.out | refine below_set ?_ GE488.out) | exact HB.out)) hb); clear BK479; clear BK483; clear BK488; clear HB; have BK479 := n0_; have BK483 := n1_; have BK488 := n2_; have HB := n3_; clear n0_ n1_ n2_ n3_; (try clear hb); (try clear hb2); (try clear hk); (try clear hi)) | ((with_reducible refine gate_callee (f := 36) rfl ?_); refine goesL_ (some 46) rfl rfl Tryd.func36 (by kernel_rfl) rfl #[.string t491] rfl am ?_; (with_reducible refine (addr_Strict.calls kj13 t491 t492 t493 t494 _ A43.out).mono ?_); rintro e w133 ⟨rfl, hb⟩; refine ⟨_, rfl, ?_⟩; have n0_ := Aside0.mk (blk_below (g := gb479) (o := .cells #[.string a0_0, .string a0_1] 31 (0, 0)) bk hb); have n1_ := Aside0.mk (blk_below (g := gb483) (o := .cells #[.string t481, .string t482] 32 (0, 0)) bk hb); have n2_ := Aside0.mk (blk_below (g := gb488) (o := .cells #[.string t485, .string t486] 32 (0, 0)) bk hb); have n3_ := Aside0.mk (below_step (by repeat (first | (with_reducible first | exact HB.out | apply below_alloc | apply pw_below_drewN | apply below_drew1 | refine below_set ?_ GE479.out | refine below_set ?_ GE483.out | refine below_set ?_ GE488.out) | exact HB.out)) hb); clear BK479; clear BK483; clear BK488; clear HB; have BK479 := n0_; have BK483 := n1_; have BK488 := n2_; have HB := n3_; clear n0_ n1_ n2_ n3_; (try clear hb); (try clear hb2); (try clear hk); (try clear hi)) | ((with_reducible refine gate_dst (N := 6) rfl ?_); (try (refine gate_guard (by rfl) ?_; dsimp only)); refine box_event ?hg (N := 6) ?hd (cs := #[.string (⟨#[]⟩ : ByteArray), .string (⟨#[]⟩ : ByteArray)]) (t := 32) ?hr ?_; (case hd => rfl); (case hg => rfl); (case hr => first | (go_simp; done) | (go_simp; rfl)); intro gb495 hg w134 hbox hb; have n0_ := Aside0.mk (blk_below (g := gb479) (o := .cells #[.string a0_0, .string a0_1] 31 (0, 0)) bk hb); have n1_ := Aside0.mk (blk_below (g := gb483) (o := .cells #[.string t481, .string t482] 32 (0, 0)) bk hb); have n2_ := Aside0.mk (blk_below (g := gb488) (o := .cells #[.string t485, .string t486] 32 (0, 0)) bk hb); have n3_ := Aside0.mk (below_step (by repeat (first | (with_reducible first | exact HB.out | apply below_alloc | apply pw_below_drewN | apply below_drew1 | refine below_set ?_ GE479.out | refine below_set ?_ GE483.out | refine below_set ?_ GE488.out) | exact HB.out)) hb); have n4_ := Aside0.mk (hbox); have n5_ := Aside0.mk ((by rw [hg]; exact (below_size (by repeat (first | (with_reducible first | exact HB.out | apply below_alloc | apply pw_below_drewN | apply below_drew1 | refine below_set ?_ GE479.out | refine below_set ?_ GE483.out | refine below_set ?_ GE488.out) | exact HB.out))) : w.heap.size ≤ gb495)); have n6_ := Aside0.mk ((by rw [hg]; exact (below_size (by repeat (first | (with_reducible first | exact HB.out | apply below_alloc | apply pw_below_drewN | apply below_drew1 | refine below_set ?_ GE479.out | refine below_set ?_ GE483.out | refine below_set ?_ GE488.out) | exact HB.out))) : w.heap.size ≤ gb495)); have n7_ := Aside0.mk ((by rw [hg]; exact Nat.ne_of_lt (blk_lt (g := gb479) (o := .cells #[.string a0_0, .string a0_1] 31 (0, 0)) bk) : gb479 ≠ gb495)); have n8_ := Aside0.mk ((by rw [hg]; exact Nat.ne_of_gt (blk_lt (g := gb479) (o := .cells #[.string a0_0, .string a0_1] 31 (0, 0)) bk) : gb495 ≠ gb479)); have n9_ := Aside0.mk ((by rw [hg]; exact Nat.ne_of_lt (blk_lt (g := gb483) (o := .cells #[.string t481, .string t482] 32 (0, 0)) bk) : gb483 ≠ gb495)); have n10_ := Aside0.mk ((by rw [hg]; exact Nat.ne_of_gt (blk_lt (g := gb483) (o := .cells #[.string t481, .string t482] 32 (0, 0)) bk) : gb495 ≠ gb483)); have n11_ := Aside0.mk ((by rw [hg]; exact Nat.ne_of_lt (blk_lt (g := gb488) (o := .cells #[.string t485, .string t486] 32 (0, 0)) bk) : gb488 ≠ gb495)); have n12_ := Aside0.mk ((by rw [hg]; exact Nat.ne_of_gt (blk_lt (g := gb488) (o := .cells #[.string t485, .string t486] 32 (0, 0)) bk) : gb495 ≠ gb488)); clear BK479; clear BK483; clear BK488; clear HB; have BK479 := n0_; have BK483 := n1_; have BK488 := n2_; have HB := n3_; have BK495 := n4_; have GW495 := n5_; have GE495 := n6_; have NB479_495 := n7_; have NB495_479 := n8_; have NB483_495 := n9_; have NB495_483 := n10_; have NB488_495 := n11_; have NB495_488 := n12_; clear n0_ n1_ n2_ n3_ n4_ n5_ n6_ n7_ n8_ n9_ n10_ n11_ n12_; clear hb hbox hg; have hnb135 := NB495_479.out; have hnc135 := NB479_495.out; have hnb136 := NB495_483.out; have hnc136 := NB483_495.out; have hnb137 := NB495_488.out; have hnc137 := NB488_495.out; have hcz138_0 : w134.cell? ⟨gb495, 0, none⟩ = some (.string (⟨#[]⟩ : ByteArray)) := (blk_cell BK495.out 0).trans rfl; have hcz138_1 : w134.cell? ⟨gb495, 1, none⟩ = some (.string (⟨#[]⟩ : ByteArray)) := (blk_cell BK495.out 1).trans rfl; have hfz138_0 := blk_frozen BK495.out 0; have hfz138_1 := blk_frozen BK495.out 1; have hcz139_0 : w134.cell? ⟨gb483, 0, none⟩ = some (.string t481) := (blk_cell BK483.out 0).trans rfl; have hcz139_1 : w134.cell? ⟨gb483, 1, none⟩ = some (.string t482) := (blk_cell BK483.out 1).trans rfl; have hfz139_0 := blk_frozen BK483.out 0; have hfz139_1 := blk_frozen BK483.out 1) | ((with_reducible refine gate_callee (f := 26) rfl ?_); refine goesL_ (some 51) rfl rfl Tryd.func26 (by kernel_rfl) rfl #[.agg #[.string t481, .string t482]] rfl am ?_; (with_reducible refine (addr_Addr_Key.calls kj13 t481 t482 t496 _ A44.out).mono ?_); rintro e w140 ⟨rfl, hb⟩; refine ⟨_, rfl, ?_⟩; have n0_ := Aside0.mk (blk_below (g := gb479) (o := .cells #[.string a0_0, .string a0_1] 31 (0, 0)) (by (with_reducible repeat (first | refine blk_drewN ?_ _ | refine blk_drew ?_ | refine blk_alloc ?_ _)); refine blk_far ?_ NB479_495.out _; (with_reducible repeat (first | refine blk_drewN ?_ _ | refine blk_drew ?_ | refine blk_alloc ?_ _)); refine blk_far ?_ NB479_495.out _; (with_reducible repeat (first | refine blk_drewN ?_ _ | refine blk_drew ?_ | refine blk_alloc ?_ _)); exact BK479.out) hb); have n1_ := Aside0.mk (blk_below (g := gb483) (o := .cells #[.string t481, .string t482] 32 (0, 0)) (by (with_reducible repeat (first | refine blk_drewN ?_ _ | refine blk_drew ?_ | refine blk_alloc ?_ _)); refine blk_far ?_ NB483_495.out _; (with_reducible repeat (first | refine blk_drewN ?_ _ | refine blk_drew ?_ | refine blk_alloc ?_ _)); refine blk_far ?_ NB483_495.out _; (with_reducible repeat (first | refine blk_drewN ?_ _ | refine blk_drew ?_ | refine blk_alloc ?_ _)); exact BK483.out) hb); have n2_ := Aside0.mk (blk_below (g := gb488) (o := .cells #[.string t485, .string t486] 32 (0, 0)) (by (with_reducible repeat (first | refine blk_drewN ?_ _ | refine blk_drew ?_ | refine blk_alloc ?_ _)); refine blk_far ?_ NB488_495.out _; (with_reducible repeat (first | refine blk_drewN ?_ _ | refine blk_drew ?_ | refine blk_alloc ?_ _)); refine blk_far ?_ NB488_495.out _; (with_reducible repeat (first | refine blk_drewN ?_ _ | refine blk_drew ?_ | refine blk_alloc ?_ _)); exact BK488.out) hb); have n3_ := Aside0.mk (blk_below (g := gb495) (o := .cells #[.string t492, .string t493] 32 (0, 0)) (by (with_reducible repeat (first | refine blk_drewN ?_ _ | refine blk_drew ?_ | refine blk_alloc ?_ _)); refine blk_put (cs := #[.string t492, .string (⟨#[]⟩ : ByteArray)]) ?_ 1 _ rfl; (with_reducible repeat (first | refine blk_drewN ?_ _ | refine blk_drew ?_ | refine blk_alloc ?_ _)); refine blk_put (cs := #[.string (⟨#[]⟩ : ByteArray), .string (⟨#[]⟩ : ByteArray)]) ?_ 0 _ rfl; (with_reducible repeat (first | refine blk_drewN ?_ _ | refine blk_drew ?_ | refine blk_alloc ?_ _)); exact BK495.out) hb); have n4_ := Aside0.mk (below_step (by repeat (first | (with_reducible first | exact HB.out | apply below_alloc | apply pw_below_drewN | apply below_drew1 | refine below_set ?_ GE479.out | refine below_set ?_ GE483.out | refine below_set ?_ GE488.out | refine below_set ?_ GE495.out) | exact HB.out)) hb); clear BK479; clear BK483; clear BK488; clear BK495; clear HB; have BK479 := n0_; have BK483 := n1_; have BK488 := n2_; have BK495 := n3_; have HB := n4_; clear n0_ n1_ n2_ n3_ n4_; (try clear hb); (try clear hb2); (try clear hk); (try clear hi)) | ((with_reducible refine gate_callee (f := 35) rfl ?_); refine goesL_ (some 52) rfl rfl Tryd.func35 (by kernel_rfl) rfl #[.string t496] rfl am ?_; (with_reducible refine (addr_Parse.calls kj13 t496 t497 t498 t499 _ A45.out).mono ?_); rintro e w141 ⟨rfl, hb⟩; refine ⟨_, rfl, ?_⟩; have n0_ := Aside0.mk (blk_below (g := gb479) (o := .cells #[.string a0_0, .string a0_1] 31 (0, 0)) bk hb); have n1_ := Aside0.mk (blk_below (g := gb483) (o := .cells #[.string t481, .string t482] 32 (0, 0)) bk hb); have n2_ := Aside0.mk (blk_below (g := gb488) (o := .cells #[.string t485, .string t486] 32 (0, 0)) bk hb); have n3_ := Aside0.mk (blk_below (g := gb495) (o := .cells #[.string t492, .string t493] 32 (0, 0)) bk hb); have n4_ := Aside0.mk (below_step (by repeat (first | (with_reducible first | exact HB.out | apply below_alloc | apply pw_below_drewN | apply below_drew1 | refine below_set ?_ GE479.out | refine below_set ?_ GE483.out | refine below_set ?_ GE488.out | refine below_set ?_ GE495.out) | exact HB.out)) hb); clear BK479; clear BK483; clear BK488; clear BK495; clear HB; have BK479 := n0_; have BK483 := n1_; have BK488 := n2_; have BK495 := n3_; have HB := n4_; clear n0_ n1_ n2_ n3_ n4_; (try clear hb); (try clear hb2); (try clear hk); (try clear hi)) | ((with_reducible refine gate_dst (N := 8) rfl ?_); (try (refine gate_guard (by rfl) ?_; dsimp only)); refine box_event ?hg (N := 8) ?hd (cs := #[.string (⟨#[]⟩ : ByteArray), .string (⟨#[]⟩ : ByteArray)]) (t := 32) ?hr ?_; (case hd => rfl); (case hg => rfl); (case hr => first | (go_simp; done) | (go_simp; rfl)); intro gb500 hg w142 hbox hb; have n0_ := Aside0.mk (blk_below (g := gb479) (o := .cells #[.string a0_0, .string a0_1] 31 (0, 0)) bk hb); have n1_ := Aside0.mk (blk_below (g := gb483) (o := .cells #[.string t481, .string t482] 32 (0, 0)) bk hb); have n2_ := Aside0.mk (blk_below (g := gb488) (o := .cells #[.string t485, .string t486] 32 (0, 0)) bk hb); have n3_ := Aside0.mk (blk_below (g := gb495) (o := .cells #[.string t492, .string t493] 32 (0, 0)) bk hb); have n4_ := Aside0.mk (below_step (by repeat (first | (with_reducible first | exact HB.out | apply below_alloc | apply pw_below_drewN | apply below_drew1 | refine below_set ?_ GE479.out | refine below_set ?_ GE483.out | refine below_set ?_ GE488.out | refine below_set ?_ GE495.out) | exact HB.out)) hb); have n5_ := Aside0.mk (hbox); have n6_ := Aside0.mk ((by rw [hg]; exact (below_size (by repeat (first | (with_reducible first | exact HB.out | apply below_alloc | apply pw_below_drewN | apply below_drew1 | refine below_set ?_ GE479.out | refine below_set ?_ GE483.out | refine below_set ?_ GE488.out | refine below_set ?_ GE495.out) | exact HB.out))) : w.heap.size ≤ gb500)); have n7_ := Aside0.mk ((by rw [hg]; exact (below_size (by repeat (first | (with_reducible first | exact HB.out | apply below_alloc | apply pw_below_drewN | apply below_drew1 | refine below_set ?_ GE479.out | refine below_set ?_ GE483.out | refine below_set ?_ GE488.out | refine below_set ?_ GE495.out) | exact HB.out))) : w.heap.size ≤ gb500)); have n8_ := Aside0.mk ((by rw [hg]; exact Nat.ne_of_lt (blk_lt (g := gb479) (o := .cells #[.string a0_0, .string a0_1] 31 (0, 0)) bk) : gb479 ≠ gb500)); have n9_ := Aside0.mk ((by rw [hg]; exact Nat.ne_of_gt (blk_lt (g := gb479) (o := .cells #[.string a0_0, .string a0_1] 31 (0, 0)) bk) : gb500 ≠ gb479)); have n10_ := Aside0.mk ((by rw [hg]; exact Nat.ne_of_lt (blk_lt (g := gb483) (o := .cells #[.string t481, .string t482] 32 (0, 0)) bk) : gb483 ≠ gb500)); have n11_ := Aside0.mk ((by rw [hg]; exact Nat.ne_of_gt (blk_lt (g := gb483) (o := .cells #[.string t481, .string t482] 32 (0, 0)) bk) : gb500 ≠ gb483)); have n12_ := Aside0.mk ((by rw [hg]; exact Nat.ne_of_lt (blk_lt (g := gb488) (o := .cells #[.string t485, .string t486] 32 (0, 0)) bk) : gb488 ≠ gb500)); have n13_ := Aside0.mk ((by rw [hg]; exact Nat.ne_of_gt (blk_lt (g := gb488) (o := .cells #[.string t485, .string t486] 32 (0, 0)) bk) : gb500 ≠ gb488)); have n14_ := Aside0.mk ((by rw [hg]; exact Nat.ne_of_lt (blk_lt (g := gb495) (o := .cells #[.string t492, .string t493] 32 (0, 0)) bk) : gb495 ≠ gb500)); have n15_ := Aside0.mk ((by rw [hg]; exact Nat.ne_of_gt (blk_lt (g := gb495) (o := .cells #[.string t492, .string t493] 32 (0, 0)) bk) : gb500 ≠ gb495)); clear BK479; clear BK483; clear BK488; clear BK495; clear HB; have BK479 := n0_; have BK483 := n1_; have BK488 := n2_; have BK495 := n3_; have HB := n4_; have BK500 := n5_; have GW500 := n6_; have GE500 := n7_; have NB479_500 := n8_; have NB500_479 := n9_; have NB483_500 := n10_; have NB500_483 := n11_; have NB488_500 := n12_; have NB500_488 := n13_; have NB495_500 := n14_; have NB500_495 := n15_; clear n0_ n1_ n2_ n3_ n4_ n5_ n6_ n7_ n8_ n9_ n10_ n11_ n12_ n13_ n14_ n15_; clear hb hbox hg; have hnb143 := NB500_479.out; have hnc143 := NB479_500.out; have hnb144 := NB500_483.out; have hnc144 := NB483_500.out; have hnb145 := NB500_488.out; have hnc145 := NB488_500.out; have hnb146 := NB500_495.out; have hnc146 := NB495_500.out; have hcz147_0 : w142.cell? ⟨gb500, 0, none⟩ = some (.string (⟨#[]⟩ : ByteArray)) := (blk_cell BK500.out 0).trans rfl; have hcz147_1 : w142.cell? ⟨gb500, 1, none⟩ = some (.string (⟨#[]⟩ : ByteArray)) := (blk_cell BK500.out 1).trans rfl; have hfz147_0 := blk_frozen BK500.out 0; have hfz147_1 := blk_frozen BK500.out 1))
            have n0_ : Aside0 (((w142.setCell ⟨gb500, 0, none⟩ (.string t497)).setCell ⟨gb500, 1, none⟩ (.string t498)).heap[gb479]? = some (.cells #[.string a0_0, .string a0_1] 31 (0, 0))) := ⟨by (with_reducible repeat (first | refine blk_drewN ?_ _ | refine blk_drew ?_ | refine blk_alloc ?_ _)); refine blk_far ?_ NB479_500.out _; (with_reducible repeat (first | refine blk_drewN ?_ _ | refine blk_drew ?_ | refine blk_alloc ?_ _)); refine blk_far ?_ NB479_500.out _; (with_reducible repeat (first | refine blk_drewN ?_ _ | refine blk_drew ?_ | refine blk_alloc ?_ _)); exact BK479.out⟩
            have n1_ : Aside0 (((w142.setCell ⟨gb500, 0, none⟩ (.string t497)).setCell ⟨gb500, 1, none⟩ (.string t498)).heap[gb483]? = some (.cells #[.string t481, .string t482] 32 (0, 0))) := ⟨by (with_reducible repeat (first | refine blk_drewN ?_ _ | refine blk_drew ?_ | refine blk_alloc ?_ _)); refine blk_far ?_ NB483_500.out _; (with_reducible repeat (first | refine blk_drewN ?_ _ | refine blk_drew ?_ | refine blk_alloc ?_ _)); refine blk_far ?_ NB483_500.out _; (with_reducible repeat (first | refine blk_drewN ?_ _ | refine blk_drew ?_ | refine blk_alloc ?_ _)); exact BK483.out⟩
            have n2_ : Aside0 (((w142.setCell ⟨gb500, 0, none⟩ (.string t497)).setCell ⟨gb500, 1, none⟩ (.string t498)).heap[gb488]? = some (.cells #[.string t485, .string t486] 32 (0, 0))) := ⟨by (with_reducible repeat (first | refine blk_drewN ?_ _ | refine blk_drew ?_ | refine blk_alloc ?_ _)); refine blk_far ?_ NB488_500.out _; (with_reducible repeat (first | refine blk_drewN ?_ _ | refine blk_drew ?_ | refine blk_alloc ?_ _)); refine blk_far ?_ NB488_500.out _; (with_reducible repeat (first | refine blk_drewN ?_ _ | refine blk_drew ?_ | refine blk_alloc ?_ _)); exact BK488.out⟩
            have n3_ : Aside0 (((w142.setCell ⟨gb500, 0, none⟩ (.string t497)).setCell ⟨gb500, 1, none⟩ (.string t498)).heap[gb495]? = some (.cells #[.string t492, .string t493] 32 (0, 0))) := ⟨by (with_reducible repeat (first | refine blk_drewN ?_ _ | refine blk_drew ?_ | refine blk_alloc ?_ _)); refine blk_far ?_ NB495_500.out _; (with_reducible repeat (first | refine blk_drewN ?_ _ | refine blk_drew ?_ | refine blk_alloc ?_ _)); refine blk_far ?_ NB495_500.out _; (with_reducible repeat (first | refine blk_drewN ?_ _ | refine blk_drew ?_ | refine blk_alloc ?_ _)); exact BK495.out⟩
            have n4_ : Aside0 (((w142.setCell ⟨gb500, 0, none⟩ (.string t497)).setCell ⟨gb500, 1, none⟩ (.string t498)).heap[gb500]? = some (.cells #[.string t497, .string t498] 32 (0, 0))) := ⟨by (with_reducible repeat (first | refine blk_drewN ?_ _ | refine blk_drew ?_ | refine blk_alloc ?_ _)); refine blk_put (cs := #[.string t497, .string (⟨#[]⟩ : ByteArray)]) ?_ 1 _ rfl; (with_reducible repeat (first | refine blk_drewN ?_ _ | refine blk_drew ?_ | refine blk_alloc ?_ _)); refine blk_put (cs := #[.string (⟨#[]⟩ : ByteArray), .string (⟨#[]⟩ : ByteArray)]) ?_ 0 _ rfl; (with_reducible repeat (first | refine blk_drewN ?_ _ | refine blk_drew ?_ | refine blk_alloc ?_ _)); exact BK500.out⟩
            have n5_ : Aside0 (Below w.heap.size w ((w142.setCell ⟨gb500, 0, none⟩ (.string t497)).setCell ⟨gb500, 1, none⟩ (.string t498))) := ⟨by repeat (first | (with_reducible first | exact HB.out | apply below_alloc | apply pw_below_drewN | apply below_drew1 | refine below_set ?_ GE479.out | refine below_set ?_ GE483.out | refine below_set ?_ GE488.out | refine below_set ?_ GE495.out | refine below_set ?_ GE500.out) | exact HB.out)⟩
            (try clear BK479)
            (try clear BK483)
            (try clear BK488)
            (try clear BK495)
            (try clear BK500)
            (try clear HB)
            generalize ((w142.setCell ⟨gb500, 0, none⟩ (.string t497)).setCell ⟨gb500, 1, none⟩ (.string t498)) = w148 at n0_ n1_ n2_ n3_ n4_ n5_ ⊢
            have BK479 := n0_
            have BK483 := n1_
            have BK488 := n2_
            have BK495 := n3_
            have BK500 := n4_
            have HB := n5_
            clear n0_ n1_ n2_ n3_ n4_ n5_
            have n0_ := Aside0.mk (blk_drew BK479.out)
            have n1_ := Aside0.mk (blk_drew BK483.out)
            have n2_ := Aside0.mk (blk_drew BK488.out)
            have n3_ := Aside0.mk (blk_drew BK495.out)
            have n4_ := Aside0.mk (blk_drew BK500.out)
            have n5_ := Aside0.mk (below_drew1 HB.out)
            clear BK479
            clear BK483
            clear BK488
            clear BK495
            clear BK500
            clear HB
            have BK479 := n0_
            have BK483 := n1_
            have BK488 := n2_
            have BK495 := n3_
            have BK500 := n4_
            have HB := n5_
            clear n0_ n1_ n2_ n3_ n4_ n5_
            refine start_ (n := 29) (S := fun w' => w'.cell? ⟨gb495, 0, none⟩ = some (.string t492) ∧ w'.cell? ⟨gb495, 1, none⟩ = some (.string t493) ∧ w'.cell? ⟨gb483, 0, none⟩ = some (.string t481) ∧ w'.cell? ⟨gb483, 1, none⟩ = some (.string t482)) (ds := []) #[false, false, false, false, false, false, false, false, false, false, false, false, false, false, false, false, false, false, false, false, false, false, false, false, false, false, false, false, false] (by kernel_rfl) rfl rfl ⟨(blk_cell BK495.out 0).trans rfl, (blk_cell BK495.out 1).trans rfl, (blk_cell BK483.out 0).trans rfl, (blk_cell BK483.out 1).trans rfl⟩ (fun hHeld => ?_); refine with_tabW bulletinlaw13_AddrBack.tab13 bulletinlaw13_AddrBack.bits13 (fun HT_ HW_ => ?_)
            generalize w148.drew = w149 at BK479 BK483 BK488 BK495 BK500 HB hHeld ⊢
            refine pure_ (i := 0) (N := some 55) (v := ?_) (a' := ?_) (bitsL 29 1) rfl rfl (any_of HT_.out (by kernel_rfl)) (fun _ _ _ h => h) (Or.inl ⟨by rfl, ?_⟩) ?_ ?_
            rotate_left
            ·intro w'
             go_simp
             with_reducible rfl
            rotate_left
            ·simp only [Act.put, List.setIfInBounds_toArray, List.set_cons_zero, List.set_cons_succ, i64_w, i32_w]
             rfl
            refine pure_ (i := 1) (N := some 56) (v := ?_) (a' := ?_) (bitsL 29 3) rfl rfl (any_of HT_.out (by kernel_rfl)) (fun _ _ _ h => h) (Or.inl ⟨by rfl, ?_⟩) ?_ ?_
            rotate_left
            ·intro w'
             go_simp
             with_reducible rfl
            rotate_left
            ·simp only [Act.put, List.setIfInBounds_toArray, List.set_cons_zero, List.set_cons_succ, i64_w, i32_w]
             rfl
            refine pure_ (i := 2) (N := some 57) (v := ?_) (a' := ?_) (bitsL 29 7) rfl rfl (any_of HT_.out (by kernel_rfl)) (fun _ _ _ h => h) (Or.inl ⟨by rfl, ?_⟩) ?_ ?_
            rotate_left
            ·intro w'
             go_simp
             with_reducible rfl
            rotate_left
            ·simp only [Act.put, List.setIfInBounds_toArray, List.set_cons_zero, List.set_cons_succ, i64_w, i32_w]
             rfl
            refine take_ (i := 3) (N := some 58) (v := ?_) (a' := ?_) (bitsL 29 15) rfl rfl (take_ofW HT_.out HW_.out (by kernel_rfl)) (fun _ _ _ h => h) (Or.inl ⟨by rfl, ?_⟩) hHeld ?_ ?_
            rotate_left
            ·rintro w' ⟨s0, s1, s2, s3⟩
             go_simp
             with_reducible rfl
            rotate_left
            ·simp only [Act.put, List.setIfInBounds_toArray, List.set_cons_zero, List.set_cons_succ, i64_w, i32_w]
             rfl
            refine take_ (i := 4) (N := some 59) (v := ?_) (a' := ?_) (bitsL 29 31) rfl rfl (take_ofW HT_.out HW_.out (by kernel_rfl)) (fun _ _ _ h => h) (Or.inl ⟨by rfl, ?_⟩) hHeld ?_ ?_
            rotate_left
            ·rintro w' ⟨s0, s1, s2, s3⟩
             go_simp
             with_reducible rfl
            rotate_left
            ·simp only [Act.put, List.setIfInBounds_toArray, List.set_cons_zero, List.set_cons_succ, i64_w, i32_w]
             rfl
            refine pure_ (i := 5) (N := some 60) (v := ?_) (a' := ?_) (bitsL 29 63) rfl rfl (any_of HT_.out (by kernel_rfl)) (fun _ _ _ h => h) (Or.inl ⟨by rfl, ?_⟩) ?_ ?_
            rotate_left
            ·intro w'
             go_simp
             with_reducible rfl
            rotate_left
            ·simp only [Act.put, List.setIfInBounds_toArray, List.set_cons_zero, List.set_cons_succ, i64_w, i32_w]
             rfl
            refine pure_ (i := 6) (N := some 61) (v := ?_) (a' := ?_) (bitsL 29 127) rfl rfl (any_of HT_.out (by kernel_rfl)) (fun _ _ _ h => h) (Or.inl ⟨by rfl, ?_⟩) ?_ ?_
            rotate_left
            ·intro w'
             go_simp
             with_reducible rfl
            rotate_left
            ·simp only [Act.put, List.setIfInBounds_toArray, List.set_cons_zero, List.set_cons_succ, i64_w, i32_w]
             rfl
            refine pure_ (i := 7) (N := some 62) (v := ?_) (a' := ?_) (bitsL 29 255) rfl rfl (any_of HT_.out (by kernel_rfl)) (fun _ _ _ h => h) (Or.inl ⟨by rfl, ?_⟩) ?_ ?_
            rotate_left
            ·intro w'
             go_simp
             with_reducible rfl
            rotate_left
            ·simp only [Act.put, List.setIfInBounds_toArray, List.set_cons_zero, List.set_cons_succ, i64_w, i32_w]
             rfl
            refine pure_ (i := 8) (N := some 63) (v := undef) (a' := ?_) (bitsL 29 511) rfl rfl (any_of HT_.out (by kernel_rfl)) (fun _ _ _ h => h) (Or.inr ⟨by rfl, rfl⟩) ?_ ?_
            rotate_left
            ·simp only [Act.put, List.setIfInBounds_toArray, List.set_cons_zero, List.set_cons_succ, i64_w, i32_w]
             rfl
            refine pure_ (i := 9) (N := some 64) (v := undef) (a' := ?_) (bitsL 29 1023) rfl rfl (any_of HT_.out (by kernel_rfl)) (fun _ _ _ h => h) (Or.inr ⟨by rfl, rfl⟩) ?_ ?_
            rotate_left
            ·simp only [Act.put, List.setIfInBounds_toArray, List.set_cons_zero, List.set_cons_succ, i64_w, i32_w]
             rfl
            refine pure_ (i := 10) (N := some 65) (v := ?_) (a' := ?_) (bitsL 29 2047) rfl rfl (any_of HT_.out (by kernel_rfl)) (fun _ _ _ h => h) (Or.inl ⟨by rfl, ?_⟩) ?_ ?_
            rotate_left
            ·intro w'
             go_simp
             with_reducible rfl
            rotate_left
            ·simp only [Act.put, List.setIfInBounds_toArray, List.set_cons_zero, List.set_cons_succ, i64_w, i32_w]
             rfl
            refine pure_ (i := 11) (N := some 66) (v := ?_) (a' := ?_) (bitsL 29 4095) rfl rfl (any_of HT_.out (by kernel_rfl)) (fun _ _ _ h => h) (Or.inl ⟨by rfl, ?_⟩) ?_ ?_
            rotate_left
            ·intro w'
             go_simp
             with_reducible rfl
            rotate_left
            ·simp only [Act.put, List.setIfInBounds_toArray, List.set_cons_zero, List.set_cons_succ, i64_w, i32_w]
             rfl
            refine pure_ (i := 12) (N := some 67) (v := undef) (a' := ?_) (bitsL 29 8191) rfl rfl (any_of HT_.out (by kernel_rfl)) (fun _ _ _ h => h) (Or.inr ⟨by rfl, rfl⟩) ?_ ?_
            rotate_left
            ·simp only [Act.put, List.setIfInBounds_toArray, List.set_cons_zero, List.set_cons_succ, i64_w, i32_w]
             rfl
            refine pure_ (i := 13) (N := some 68) (v := undef) (a' := ?_) (bitsL 29 16383) rfl rfl (any_of HT_.out (by kernel_rfl)) (fun _ _ _ h => h) (Or.inr ⟨by rfl, rfl⟩) ?_ ?_
            rotate_left
            ·simp only [Act.put, List.setIfInBounds_toArray, List.set_cons_zero, List.set_cons_succ, i64_w, i32_w]
             rfl
            refine pure_ (i := 14) (N := some 69) (v := undef) (a' := ?_) (bitsL 29 32767) rfl rfl (any_of HT_.out (by kernel_rfl)) (fun _ _ _ h => h) (Or.inr ⟨by rfl, rfl⟩) ?_ ?_
            rotate_left
            ·simp only [Act.put, List.setIfInBounds_toArray, List.set_cons_zero, List.set_cons_succ, i64_w, i32_w]
             rfl
            refine pure_ (i := 15) (N := some 70) (v := undef) (a' := ?_) (bitsL 29 65535) rfl rfl (any_of HT_.out (by kernel_rfl)) (fun _ _ _ h => h) (Or.inr ⟨by rfl, rfl⟩) ?_ ?_
            rotate_left
            ·simp only [Act.put, List.setIfInBounds_toArray, List.set_cons_zero, List.set_cons_succ, i64_w, i32_w]
             rfl
            refine pure_ (i := 16) (N := some 71) (v := undef) (a' := ?_) (bitsL 29 131071) rfl rfl (any_of HT_.out (by kernel_rfl)) (fun _ _ _ h => h) (Or.inr ⟨by rfl, rfl⟩) ?_ ?_
            rotate_left
            ·simp only [Act.put, List.setIfInBounds_toArray, List.set_cons_zero, List.set_cons_succ, i64_w, i32_w]
             rfl
            refine pure_ (i := 17) (N := some 72) (v := ?_) (a' := ?_) (bitsL 29 262143) rfl rfl (any_of HT_.out (by kernel_rfl)) (fun _ _ _ h => h) (Or.inl ⟨by rfl, ?_⟩) ?_ ?_
            rotate_left
            ·intro w'
             go_simp
             with_reducible rfl
            rotate_left
            ·simp only [Act.put, List.setIfInBounds_toArray, List.set_cons_zero, List.set_cons_succ, i64_w, i32_w]
             rfl
            refine pure_ (i := 18) (N := some 73) (v := ?_) (a' := ?_) (bitsL 29 524287) rfl rfl (any_of HT_.out (by kernel_rfl)) (fun _ _ _ h => h) (Or.inl ⟨by rfl, ?_⟩) ?_ ?_
            rotate_left
            ·intro w'
             go_simp
             with_reducible rfl
            rotate_left
            ·simp only [Act.put, List.setIfInBounds_toArray, List.set_cons_zero, List.set_cons_succ, i64_w, i32_w]
             rfl
            refine pure_ (i := 19) (N := some 74) (v := undef) (a' := ?_) (bitsL 29 1048575) rfl rfl (any_of HT_.out (by kernel_rfl)) (fun _ _ _ h => h) (Or.inr ⟨by rfl, rfl⟩) ?_ ?_
            rotate_left
            ·simp only [Act.put, List.setIfInBounds_toArray, List.set_cons_zero, List.set_cons_succ, i64_w, i32_w]
             rfl
            refine pure_ (i := 20) (N := some 75) (v := undef) (a' := ?_) (bitsL 29 2097151) rfl rfl (any_of HT_.out (by kernel_rfl)) (fun _ _ _ h => h) (Or.inr ⟨by rfl, rfl⟩) ?_ ?_
            rotate_left
            ·simp only [Act.put, List.setIfInBounds_toArray, List.set_cons_zero, List.set_cons_succ, i64_w, i32_w]
             rfl
            refine pure_ (i := 21) (N := some 76) (v := undef) (a' := ?_) (bitsL 29 4194303) rfl rfl (any_of HT_.out (by kernel_rfl)) (fun _ _ _ h => h) (Or.inr ⟨by rfl, rfl⟩) ?_ ?_
            rotate_left
            ·simp only [Act.put, List.setIfInBounds_toArray, List.set_cons_zero, List.set_cons_succ, i64_w, i32_w]
             rfl
            refine pure_ (i := 22) (N := some 77) (v := undef) (a' := ?_) (bitsL 29 8388607) rfl rfl (any_of HT_.out (by kernel_rfl)) (fun _ _ _ h => h) (Or.inr ⟨by rfl, rfl⟩) ?_ ?_
            rotate_left
            ·simp only [Act.put, List.setIfInBounds_toArray, List.set_cons_zero, List.set_cons_succ, i64_w, i32_w]
             rfl
            refine pure_ (i := 23) (N := some 78) (v := undef) (a' := ?_) (bitsL 29 16777215) rfl rfl (any_of HT_.out (by kernel_rfl)) (fun _ _ _ h => h) (Or.inr ⟨by rfl, rfl⟩) ?_ ?_
            rotate_left
            ·simp only [Act.put, List.setIfInBounds_toArray, List.set_cons_zero, List.set_cons_succ, i64_w, i32_w]
             rfl
            refine pure_ (i := 24) (N := some 79) (v := undef) (a' := ?_) (bitsL 29 33554431) rfl rfl (any_of HT_.out (by kernel_rfl)) (fun _ _ _ h => h) (Or.inr ⟨by rfl, rfl⟩) ?_ ?_
            rotate_left
            ·simp only [Act.put, List.setIfInBounds_toArray, List.set_cons_zero, List.set_cons_succ, i64_w, i32_w]
             rfl
            refine pure_ (i := 25) (N := some 80) (v := undef) (a' := ?_) (bitsL 29 67108863) rfl rfl (any_of HT_.out (by kernel_rfl)) (fun _ _ _ h => h) (Or.inr ⟨by rfl, rfl⟩) ?_ ?_
            rotate_left
            ·simp only [Act.put, List.setIfInBounds_toArray, List.set_cons_zero, List.set_cons_succ, i64_w, i32_w]
             rfl
            refine pure_ (i := 26) (N := some 81) (v := undef) (a' := ?_) (bitsL 29 134217727) rfl rfl (any_of HT_.out (by kernel_rfl)) (fun _ _ _ h => h) (Or.inr ⟨by rfl, rfl⟩) ?_ ?_
            rotate_left
            ·simp only [Act.put, List.setIfInBounds_toArray, List.set_cons_zero, List.set_cons_succ, i64_w, i32_w]
             rfl
            refine pure_ (i := 27) (N := some 82) (v := ?_) (a' := ?_) (bitsL 29 268435455) rfl rfl (any_of HT_.out (by kernel_rfl)) (fun _ _ _ h => h) (Or.inl ⟨by rfl, ?_⟩) ?_ ?_
            rotate_left
            ·intro w'
             go_simp
             with_reducible rfl
            rotate_left
            ·simp only [Act.put, List.setIfInBounds_toArray, List.set_cons_zero, List.set_cons_succ, i64_w, i32_w]
             rfl
            refine pure_ (i := 28) (N := some 2) (v := ?_) (a' := ?_) (bitsL 29 536870911) rfl rfl (any_of HT_.out (by kernel_rfl)) (fun _ _ _ h => h) (Or.inl ⟨by rfl, ?_⟩) ?_ ?_
            rotate_left
            ·intro w'
             go_simp
             with_reducible rfl
            rotate_left
            ·simp only [Act.put, List.setIfInBounds_toArray, List.set_cons_zero, List.set_cons_succ, i64_w, i32_w]
             rfl
            refine done_ (done_of HT_.out (by kernel_rfl)) ?_
            as_aux_lemma =>
             try go_wp2
             go_ret
             exact ⟨by first | rfl | (simp [errW_none, errW_some] <;> rfl) | (simp [*, errW_none, errW_some] <;> rfl), by repeat (first | (with_reducible first | exact HB.out | apply below_alloc | apply pw_below_drewN | apply below_drew1 | refine below_set ?_ GE479.out | refine below_set ?_ GE483.out | refine below_set ?_ GE488.out | refine below_set ?_ GE495.out | refine below_set ?_ GE500.out) | exact HB.out)⟩
         ·rw [if_neg c46] at H
          have c46b0 : (t494 == 0) = false := beq_eq_false_iff_ne.mpr c46
          have c46b1 : (t494 != 0) = true := bne_iff_ne.mpr c46
          obtain rfl := Option.some.inj H
          have hnb150 := NB483_479.out
          have hnc150 := NB479_483.out
          have hnb151 := NB483_488.out
          have hnc151 := NB488_483.out
          have hcz152_0 : wc.cell? ⟨gb483, 0, none⟩ = some (.string t481) := (blk_cell BK483.out 0).trans rfl
          have hcz152_1 : wc.cell? ⟨gb483, 1, none⟩ = some (.string t482) := (blk_cell BK483.out 1).trans rfl
          have hfz152_0 := blk_frozen BK483.out 0
          have hfz152_1 := blk_frozen BK483.out 1
          as_aux_lemma =>
           try go_wp2_with (first | ((with_reducible refine gate_callee (f := 25) rfl ?_); refine goesL_ (some 41) rfl rfl Tryd.func25 (by kernel_rfl) rfl #[.agg #[.string t481, .string t482]] rfl am ?_; (with_reducible refine (addr_Addr_Right.calls kj13 t481 t482 true _ A40.out).mono ?_); rintro e w153 ⟨rfl, hb⟩; refine ⟨_, rfl, ?_⟩; have n0_ := Aside0.mk (blk_below (g := gb479) (o := .cells #[.string a0_0, .string a0_1] 31 (0, 0)) bk hb); have n1_ := Aside0.mk (blk_below (g := gb483) (o := .cells #[.string t481, .string t482] 32 (0, 0)) bk hb); have n2_ := Aside0.mk (blk_below (g := gb488) (o := .cells #[.string t485, .string t486] 32 (0, 0)) bk hb); have n3_ := Aside0.mk (below_step (by repeat (first | (with_reducible first | exact HB.out | apply below_alloc | apply pw_below_drewN | apply below_drew1 | refine below_set ?_ GE479.out | refine below_set ?_ GE483.out | refine below_set ?_ GE488.out) | exact HB.out)) hb); clear BK479; clear BK483; clear BK488; clear HB; have BK479 := n0_; have BK483 := n1_; have BK488 := n2_; have HB := n3_; clear n0_ n1_ n2_ n3_; (try clear hb); (try clear hb2); (try clear hk); (try clear hi); have hcz154_0 : w153.cell? ⟨gb483, 0, none⟩ = some (.string t481) := (blk_cell BK483.out 0).trans rfl; have hcz154_1 : w153.cell? ⟨gb483, 1, none⟩ = some (.string t482) := (blk_cell BK483.out 1).trans rfl; have hfz154_0 := blk_frozen BK483.out 0; have hfz154_1 := blk_frozen BK483.out 1) | ((with_reducible refine gate_callee (f := 29) rfl ?_); refine goesL_ (some 45) rfl rfl Tryd.func29 (by kernel_rfl) rfl #[.agg #[.string t481, .string t482]] rfl am ?_; (with_reducible refine (addr_Addr_Text.calls kj13 t481 t482 t491 _ A42.out).mono ?_); rintro e w155 ⟨rfl, hb⟩; refine ⟨_, rfl, ?_⟩; have n0_ := Aside0.mk (blk_below (g := gb479) (o := .cells #[.string a0_0, .string a0_1] 31 (0, 0)) bk hb); have n1_ := Aside0.mk (blk_below (g := gb483) (o := .cells #[.string t481, .string t482] 32 (0, 0)) bk hb); have n2_ := Aside0.mk (blk_below (g := gb488) (o := .cells #[.string t485, .string t486] 32 (0, 0)) bk hb); have n3_ := Aside0.mk (below_step (by repeat (first | (with_reducible first | exact HB.out | apply below_alloc | apply pw_below_drewN | apply below_drew1 | refine below_set ?_ GE479.out | refine below_set ?_ GE483.out | refine below_set ?_ GE488.out) | exact HB.out)) hb); clear BK479; clear BK483; clear BK488; clear HB; have BK479 := n0_; have BK483 := n1_; have BK488 := n2_; have HB := n3_; clear n0_ n1_ n2_ n3_; (try clear hb); (try clear hb2); (try clear hk); (try clear hi)) | ((with_reducible refine gate_callee (f := 36) rfl ?_); refine goesL_ (some 46) rfl rfl Tryd.func36 (by kernel_rfl) rfl #[.string t491] rfl am ?_; (with_reducible refine (addr_Strict.calls kj13 t491 t492 t493 t494 _ A43.out).mono ?_); rintro e w156 ⟨rfl, hb⟩; refine ⟨_, rfl, ?_⟩; have n0_ := Aside0.mk (blk_below (g := gb479) (o := .cells #[.string a0_0, .string a0_1] 31 (0, 0)) bk hb); have n1_ := Aside0.mk (blk_below (g := gb483) (o := .cells #[.string t481, .string t482] 32 (0, 0)) bk hb); have n2_ := Aside0.mk (blk_below (g := gb488) (o := .cells #[.string t485, .string t486] 32 (0, 0)) bk hb); have n3_ := Aside0.mk (below_step (by repeat (first | (with_reducible first | exact HB.out | apply below_alloc | apply pw_below_drewN | apply below_drew1 | refine below_set ?_ GE479.out | refine below_set ?_ GE483.out | refine below_set ?_ GE488.out) | exact HB.out)) hb); clear BK479; clear BK483; clear BK488; clear HB; have BK479 := n0_; have BK483 := n1_; have BK488 := n2_; have HB := n3_; clear n0_ n1_ n2_ n3_; (try clear hb); (try clear hb2); (try clear hk); (try clear hi)) | ((with_reducible refine gate_dst (N := 6) rfl ?_); (try (refine gate_guard (by rfl) ?_; dsimp only)); refine box_event ?hg (N := 6) ?hd (cs := #[.string (⟨#[]⟩ : ByteArray), .string (⟨#[]⟩ : ByteArray)]) (t := 32) ?hr ?_; (case hd => rfl); (case hg => rfl); (case hr => first | (go_simp; done) | (go_simp; rfl)); intro gb495 hg w157 hbox hb; have n0_ := Aside0.mk (blk_below (g := gb479) (o := .cells #[.string a0_0, .string a0_1] 31 (0, 0)) bk hb); have n1_ := Aside0.mk (blk_below (g := gb483) (o := .cells #[.string t481, .string t482] 32 (0, 0)) bk hb); have n2_ := Aside0.mk (blk_below (g := gb488) (o := .cells #[.string t485, .string t486] 32 (0, 0)) bk hb); have n3_ := Aside0.mk (below_step (by repeat (first | (with_reducible first | exact HB.out | apply below_alloc | apply pw_below_drewN | apply below_drew1 | refine below_set ?_ GE479.out | refine below_set ?_ GE483.out | refine below_set ?_ GE488.out) | exact HB.out)) hb); have n4_ := Aside0.mk (hbox); have n5_ := Aside0.mk ((by rw [hg]; exact (below_size (by repeat (first | (with_reducible first | exact HB.out | apply below_alloc | apply pw_below_drewN | apply below_drew1 | refine below_set ?_ GE479.out | refine below_set ?_ GE483.out | refine below_set ?_ GE488.out) | exact HB.out))) : w.heap.size ≤ gb495)); have n6_ := Aside0.mk ((by rw [hg]; exact (below_size (by repeat (first | (with_reducible first | exact HB.out | apply below_alloc | apply pw_below_drewN | apply below_drew1 | refine below_set ?_ GE479.out | refine below_set ?_ GE483.out | refine below_set ?_ GE488.out) | exact HB.out))) : w.heap.size ≤ gb495)); have n7_ := Aside0.mk ((by rw [hg]; exact Nat.ne_of_lt (blk_lt (g := gb479) (o := .cells #[.string a0_0, .string a0_1] 31 (0, 0)) bk) : gb479 ≠ gb495)); have n8_ := Aside0.mk ((by rw [hg]; exact Nat.ne_of_gt (blk_lt (g := gb479) (o := .cells #[.string a0_0, .string a0_1] 31 (0, 0)) bk) : gb495 ≠ gb479)); have n9_ := Aside0.mk ((by rw [hg]; exact Nat.ne_of_lt (blk_lt (g := gb483) (o := .cells #[.string t481, .string t482] 32 (0, 0)) bk) : gb483 ≠ gb495)); have n10_ := Aside0.mk ((by rw [hg]; exact Nat.ne_of_gt (blk_lt (g := gb483) (o := .cells #[.string t481, .string t482] 32 (0, 0)) bk) : gb495 ≠ gb483)); have n11_ := Aside0.mk ((by rw [hg]; exact Nat.ne_of_lt (blk_lt (g := gb488) (o := .cells #[.string t485, .string t486] 32 (0, 0)) bk) : gb488 ≠ gb495)); have n12_ := Aside0.mk ((by rw [hg]; exact Nat.ne_of_gt (blk_lt (g := gb488) (o := .cells #[.string t485, .string t486] 32 (0, 0)) bk) : gb495 ≠ gb488)); clear BK479; clear BK483; clear BK488; clear HB; have BK479 := n0_; have BK483 := n1_; have BK488 := n2_; have HB := n3_; have BK495 := n4_; have GW495 := n5_; have GE495 := n6_; have NB479_495 := n7_; have NB495_479 := n8_; have NB483_495 := n9_; have NB495_483 := n10_; have NB488_495 := n11_; have NB495_488 := n12_; clear n0_ n1_ n2_ n3_ n4_ n5_ n6_ n7_ n8_ n9_ n10_ n11_ n12_; clear hb hbox hg; have hnb158 := NB495_479.out; have hnc158 := NB479_495.out; have hnb159 := NB495_483.out; have hnc159 := NB483_495.out; have hnb160 := NB495_488.out; have hnc160 := NB488_495.out; have hcz161_0 : w157.cell? ⟨gb495, 0, none⟩ = some (.string (⟨#[]⟩ : ByteArray)) := (blk_cell BK495.out 0).trans rfl; have hcz161_1 : w157.cell? ⟨gb495, 1, none⟩ = some (.string (⟨#[]⟩ : ByteArray)) := (blk_cell BK495.out 1).trans rfl; have hfz161_0 := blk_frozen BK495.out 0; have hfz161_1 := blk_frozen BK495.out 1; have hcz162_0 : w157.cell? ⟨gb483, 0, none⟩ = some (.string t481) := (blk_cell BK483.out 0).trans rfl; have hcz162_1 : w157.cell? ⟨gb483, 1, none⟩ = some (.string t482) := (blk_cell BK483.out 1).trans rfl; have hfz162_0 := blk_frozen BK483.out 0; have hfz162_1 := blk_frozen BK483.out 1) | ((with_reducible refine gate_callee (f := 26) rfl ?_); refine goesL_ (some 51) rfl rfl Tryd.func26 (by kernel_rfl) rfl #[.agg #[.string t481, .string t482]] rfl am ?_; (with_reducible refine (addr_Addr_Key.calls kj13 t481 t482 t496 _ A44.out).mono ?_); rintro e w163 ⟨rfl, hb⟩; refine ⟨_, rfl, ?_⟩; have n0_ := Aside0.mk (blk_below (g := gb479) (o := .cells #[.string a0_0, .string a0_1] 31 (0, 0)) (by (with_reducible repeat (first | refine blk_drewN ?_ _ | refine blk_drew ?_ | refine blk_alloc ?_ _)); refine blk_far ?_ NB479_495.out _; (with_reducible repeat (first | refine blk_drewN ?_ _ | refine blk_drew ?_ | refine blk_alloc ?_ _)); refine blk_far ?_ NB479_495.out _; (with_reducible repeat (first | refine blk_drewN ?_ _ | refine blk_drew ?_ | refine blk_alloc ?_ _)); exact BK479.out) hb); have n1_ := Aside0.mk (blk_below (g := gb483) (o := .cells #[.string t481, .string t482] 32 (0, 0)) (by (with_reducible repeat (first | refine blk_drewN ?_ _ | refine blk_drew ?_ | refine blk_alloc ?_ _)); refine blk_far ?_ NB483_495.out _; (with_reducible repeat (first | refine blk_drewN ?_ _ | refine blk_drew ?_ | refine blk_alloc ?_ _)); refine blk_far ?_ NB483_495.out _; (with_reducible repeat (first | refine blk_drewN ?_ _ | refine blk_drew ?_ | refine blk_alloc ?_ _)); exact BK483.out) hb); have n2_ := Aside0.mk (blk_below (g := gb488) (o := .cells #[.string t485, .string t486] 32 (0, 0)) (by (with_reducible repeat (first | refine blk_drewN ?_ _ | refine blk_drew ?_ | refine blk_alloc ?_ _)); refine blk_far ?_ NB488_495.out _; (with_reducible repeat (first | refine blk_drewN ?_ _ | refine blk_drew ?_ | refine blk_alloc ?_ _)); refine blk_far ?_ NB488_495.out _; (with_reducible repeat (first | refine blk_drewN ?_ _ | refine blk_drew ?_ | refine blk_alloc ?_ _)); exact BK488.out) hb); have n3_ := Aside0.mk (blk_below (g := gb495) (o := .cells #[.string t492, .string t493] 32 (0, 0)) (by (with_reducible repeat (first | refine blk_drewN ?_ _ | refine blk_drew ?_ | refine blk_alloc ?_ _)); refine blk_put (cs := #[.string t492, .string (⟨#[]⟩ : ByteArray)]) ?_ 1 _ rfl; (with_reducible repeat (first | refine blk_drewN ?_ _ | refine blk_drew ?_ | refine blk_alloc ?_ _)); refine blk_put (cs := #[.string (⟨#[]⟩ : ByteArray), .string (⟨#[]⟩ : ByteArray)]) ?_ 0 _ rfl; (with_reducible repeat (first | refine blk_drewN ?_ _ | refine blk_drew ?_ | refine blk_alloc ?_ _)); exact BK495.out) hb); have n4_ := Aside0.mk (below_step (by repeat (first | (with_reducible first | exact HB.out | apply below_alloc | apply pw_below_drewN | apply below_drew1 | refine below_set ?_ GE479.out | refine below_set ?_ GE483.out | refine below_set ?_ GE488.out | refine below_set ?_ GE495.out) | exact HB.out)) hb); clear BK479; clear BK483; clear BK488; clear BK495; clear HB; have BK479 := n0_; have BK483 := n1_; have BK488 := n2_; have BK495 := n3_; have HB := n4_; clear n0_ n1_ n2_ n3_ n4_; (try clear hb); (try clear hb2); (try clear hk); (try clear hi)) | ((with_reducible refine gate_callee (f := 35) rfl ?_); refine goesL_ (some 52) rfl rfl Tryd.func35 (by kernel_rfl) rfl #[.string t496] rfl am ?_; (with_reducible refine (addr_Parse.calls kj13 t496 t497 t498 t499 _ A45.out).mono ?_); rintro e w164 ⟨rfl, hb⟩; refine ⟨_, rfl, ?_⟩; have n0_ := Aside0.mk (blk_below (g := gb479) (o := .cells #[.string a0_0, .string a0_1] 31 (0, 0)) bk hb); have n1_ := Aside0.mk (blk_below (g := gb483) (o := .cells #[.string t481, .string t482] 32 (0, 0)) bk hb); have n2_ := Aside0.mk (blk_below (g := gb488) (o := .cells #[.string t485, .string t486] 32 (0, 0)) bk hb); have n3_ := Aside0.mk (blk_below (g := gb495) (o := .cells #[.string t492, .string t493] 32 (0, 0)) bk hb); have n4_ := Aside0.mk (below_step (by repeat (first | (with_reducible first | exact HB.out | apply below_alloc | apply pw_below_drewN | apply below_drew1 | refine below_set ?_ GE479.out | refine below_set ?_ GE483.out | refine below_set ?_ GE488.out | refine below_set ?_ GE495.out) | exact HB.out)) hb); clear BK479; clear BK483; clear BK488; clear BK495; clear HB; have BK479 := n0_; have BK483 := n1_; have BK488 := n2_; have BK495 := n3_; have HB := n4_; clear n0_ n1_ n2_ n3_ n4_; (try clear hb); (try clear hb2); (try clear hk); (try clear hi)) | ((with_reducible refine gate_dst (N := 8) rfl ?_); (try (refine gate_guard (by rfl) ?_; dsimp only)); refine box_event ?hg (N := 8) ?hd (cs := #[.string (⟨#[]⟩ : ByteArray), .string (⟨#[]⟩ : ByteArray)]) (t := 32) ?hr ?_; (case hd => rfl); (case hg => rfl); (case hr => first | (go_simp; done) | (go_simp; rfl)); intro gb500 hg w165 hbox hb; have n0_ := Aside0.mk (blk_below (g := gb479) (o := .cells #[.string a0_0, .string a0_1] 31 (0, 0)) bk hb); have n1_ := Aside0.mk (blk_below (g := gb483) (o := .cells #[.string t481, .string t482] 32 (0, 0)) bk hb); have n2_ := Aside0.mk (blk_below (g := gb488) (o := .cells #[.string t485, .string t486] 32 (0, 0)) bk hb); have n3_ := Aside0.mk (blk_below (g := gb495) (o := .cells #[.string t492, .string t493] 32 (0, 0)) bk hb); have n4_ := Aside0.mk (below_step (by repeat (first | (with_reducible first | exact HB.out | apply below_alloc | apply pw_below_drewN | apply below_drew1 | refine below_set ?_ GE479.out | refine below_set ?_ GE483.out | refine below_set ?_ GE488.out | refine below_set ?_ GE495.out) | exact HB.out)) hb); have n5_ := Aside0.mk (hbox); have n6_ := Aside0.mk ((by rw [hg]; exact (below_size (by repeat (first | (with_reducible first | exact HB.out | apply below_alloc | apply pw_below_drewN | apply below_drew1 | refine below_set ?_ GE479.out | refine below_set ?_ GE483.out | refine below_set ?_ GE488.out | refine below_set ?_ GE495.out) | exact HB.out))) : w.heap.size ≤ gb500)); have n7_ := Aside0.mk ((by rw [hg]; exact (below_size (by repeat (first | (with_reducible first | exact HB.out | apply below_alloc | apply pw_below_drewN | apply below_drew1 | refine below_set ?_ GE479.out | refine below_set ?_ GE483.out | refine below_set ?_ GE488.out | refine below_set ?_ GE495.out) | exact HB.out))) : w.heap.size ≤ gb500)); have n8_ := Aside0.mk ((by rw [hg]; exact Nat.ne_of_lt (blk_lt (g := gb479) (o := .cells #[.string a0_0, .string a0_1] 31 (0, 0)) bk) : gb479 ≠ gb500)); have n9_ := Aside0.mk ((by rw [hg]; exact Nat.ne_of_gt (blk_lt (g := gb479) (o := .cells #[.string a0_0, .string a0_1] 31 (0, 0)) bk) : gb500 ≠ gb479)); have n10_ := Aside0.mk ((by rw [hg]; exact Nat.ne_of_lt (blk_lt (g := gb483) (o := .cells #[.string t481, .string t482] 32 (0, 0)) bk) : gb483 ≠ gb500)); have n11_ := Aside0.mk ((by rw [hg]; exact Nat.ne_of_gt (blk_lt (g := gb483) (o := .cells #[.string t481, .string t482] 32 (0, 0)) bk) : gb500 ≠ gb483)); have n12_ := Aside0.mk ((by rw [hg]; exact Nat.ne_of_lt (blk_lt (g := gb488) (o := .cells #[.string t485, .string t486] 32 (0, 0)) bk) : gb488 ≠ gb500)); have n13_ := Aside0.mk ((by rw [hg]; exact Nat.ne_of_gt (blk_lt (g := gb488) (o := .cells #[.string t485, .string t486] 32 (0, 0)) bk) : gb500 ≠ gb488)); have n14_ := Aside0.mk ((by rw [hg]; exact Nat.ne_of_lt (blk_lt (g := gb495) (o := .cells #[.string t492, .string t493] 32 (0, 0)) bk) : gb495 ≠ gb500)); have n15_ := Aside0.mk ((by rw [hg]; exact Nat.ne_of_gt (blk_lt (g := gb495) (o := .cells #[.string t492, .string t493] 32 (0, 0)) bk) : gb500 ≠ gb495)); clear BK479; clear BK483; clear BK488; clear BK495; clear HB; have BK479 := n0_; have BK483 := n1_; have BK488 := n2_; have BK495 := n3_; have HB := n4_; have BK500 := n5_; have GW500 := n6_; have GE500 := n7_; have NB479_500 := n8_; have NB500_479 := n9_; have NB483_500 := n10_; have NB500_483 := n11_; have NB488_500 := n12_; have NB500_488 := n13_; have NB495_500 := n14_; have NB500_495 := n15_; clear n0_ n1_ n2_ n3_ n4_ n5_ n6_ n7_ n8_ n9_ n10_ n11_ n12_ n13_ n14_ n15_; clear hb hbox hg; have hnb166 := NB500_479.out; have hnc166 := NB479_500.out; have hnb167 := NB500_483.out; have hnc167 := NB483_500.out; have hnb168 := NB500_488.out; have hnc168 := NB488_500.out; have hnb169 := NB500_495.out; have hnc169 := NB495_500.out; have hcz170_0 : w165.cell? ⟨gb500, 0, none⟩ = some (.string (⟨#[]⟩ : ByteArray)) := (blk_cell BK500.out 0).trans rfl; have hcz170_1 : w165.cell? ⟨gb500, 1, none⟩ = some (.string (⟨#[]⟩ : ByteArray)) := (blk_cell BK500.out 1).trans rfl; have hfz170_0 := blk_frozen BK500.out 0; have hfz170_1 := blk_frozen BK500.out 1))
           have n0_ : Aside0 (((w165.setCell ⟨gb500, 0, none⟩ (.string t497)).setCell ⟨gb500, 1, none⟩ (.string t498)).heap[gb479]? = some (.cells #[.string a0_0, .string a0_1] 31 (0, 0))) := ⟨by (with_reducible repeat (first | refine blk_drewN ?_ _ | refine blk_drew ?_ | refine blk_alloc ?_ _)); refine blk_far ?_ NB479_500.out _; (with_reducible repeat (first | refine blk_drewN ?_ _ | refine blk_drew ?_ | refine blk_alloc ?_ _)); refine blk_far ?_ NB479_500.out _; (with_reducible repeat (first | refine blk_drewN ?_ _ | refine blk_drew ?_ | refine blk_alloc ?_ _)); exact BK479.out⟩
           have n1_ : Aside0 (((w165.setCell ⟨gb500, 0, none⟩ (.string t497)).setCell ⟨gb500, 1, none⟩ (.string t498)).heap[gb483]? = some (.cells #[.string t481, .string t482] 32 (0, 0))) := ⟨by (with_reducible repeat (first | refine blk_drewN ?_ _ | refine blk_drew ?_ | refine blk_alloc ?_ _)); refine blk_far ?_ NB483_500.out _; (with_reducible repeat (first | refine blk_drewN ?_ _ | refine blk_drew ?_ | refine blk_alloc ?_ _)); refine blk_far ?_ NB483_500.out _; (with_reducible repeat (first | refine blk_drewN ?_ _ | refine blk_drew ?_ | refine blk_alloc ?_ _)); exact BK483.out⟩
           have n2_ : Aside0 (((w165.setCell ⟨gb500, 0, none⟩ (.string t497)).setCell ⟨gb500, 1, none⟩ (.string t498)).heap[gb488]? = some (.cells #[.string t485, .string t486] 32 (0, 0))) := ⟨by (with_reducible repeat (first | refine blk_drewN ?_ _ | refine blk_drew ?_ | refine blk_alloc ?_ _)); refine blk_far ?_ NB488_500.out _; (with_reducible repeat (first | refine blk_drewN ?_ _ | refine blk_drew ?_ | refine blk_alloc ?_ _)); refine blk_far ?_ NB488_500.out _; (with_reducible repeat (first | refine blk_drewN ?_ _ | refine blk_drew ?_ | refine blk_alloc ?_ _)); exact BK488.out⟩
           have n3_ : Aside0 (((w165.setCell ⟨gb500, 0, none⟩ (.string t497)).setCell ⟨gb500, 1, none⟩ (.string t498)).heap[gb495]? = some (.cells #[.string t492, .string t493] 32 (0, 0))) := ⟨by (with_reducible repeat (first | refine blk_drewN ?_ _ | refine blk_drew ?_ | refine blk_alloc ?_ _)); refine blk_far ?_ NB495_500.out _; (with_reducible repeat (first | refine blk_drewN ?_ _ | refine blk_drew ?_ | refine blk_alloc ?_ _)); refine blk_far ?_ NB495_500.out _; (with_reducible repeat (first | refine blk_drewN ?_ _ | refine blk_drew ?_ | refine blk_alloc ?_ _)); exact BK495.out⟩
           have n4_ : Aside0 (((w165.setCell ⟨gb500, 0, none⟩ (.string t497)).setCell ⟨gb500, 1, none⟩ (.string t498)).heap[gb500]? = some (.cells #[.string t497, .string t498] 32 (0, 0))) := ⟨by (with_reducible repeat (first | refine blk_drewN ?_ _ | refine blk_drew ?_ | refine blk_alloc ?_ _)); refine blk_put (cs := #[.string t497, .string (⟨#[]⟩ : ByteArray)]) ?_ 1 _ rfl; (with_reducible repeat (first | refine blk_drewN ?_ _ | refine blk_drew ?_ | refine blk_alloc ?_ _)); refine blk_put (cs := #[.string (⟨#[]⟩ : ByteArray), .string (⟨#[]⟩ : ByteArray)]) ?_ 0 _ rfl; (with_reducible repeat (first | refine blk_drewN ?_ _ | refine blk_drew ?_ | refine blk_alloc ?_ _)); exact BK500.out⟩
           have n5_ : Aside0 (Below w.heap.size w ((w165.setCell ⟨gb500, 0, none⟩ (.string t497)).setCell ⟨gb500, 1, none⟩ (.string t498))) := ⟨by repeat (first | (with_reducible first | exact HB.out | apply below_alloc | apply pw_below_drewN | apply below_drew1 | refine below_set ?_ GE479.out | refine below_set ?_ GE483.out | refine below_set ?_ GE488.out | refine below_set ?_ GE495.out | refine below_set ?_ GE500.out) | exact HB.out)⟩
           (try clear BK479)
           (try clear BK483)
           (try clear BK488)
           (try clear BK495)
           (try clear BK500)
           (try clear HB)
           generalize ((w165.setCell ⟨gb500, 0, none⟩ (.string t497)).setCell ⟨gb500, 1, none⟩ (.string t498)) = w171 at n0_ n1_ n2_ n3_ n4_ n5_ ⊢
           have BK479 := n0_
           have BK483 := n1_
           have BK488 := n2_
           have BK495 := n3_
           have BK500 := n4_
           have HB := n5_
           clear n0_ n1_ n2_ n3_ n4_ n5_
           have n0_ := Aside0.mk (blk_drew BK479.out)
           have n1_ := Aside0.mk (blk_drew BK483.out)
           have n2_ := Aside0.mk (blk_drew BK488.out)
           have n3_ := Aside0.mk (blk_drew BK495.out)
           have n4_ := Aside0.mk (blk_drew BK500.out)
           have n5_ := Aside0.mk (below_drew1 HB.out)
           clear BK479
           clear BK483
           clear BK488
           clear BK495
           clear BK500
           clear HB
           have BK479 := n0_
           have BK483 := n1_
           have BK488 := n2_
           have BK495 := n3_
           have BK500 := n4_
           have HB := n5_
           clear n0_ n1_ n2_ n3_ n4_ n5_
           refine start_ (n := 29) (S := fun w' => True) (ds := []) #[false, false, false, false, false, false, false, false, false, false, false, false, false, false, false, false, false, false, false, false, false, false, false, false, false, false, false, false, false] (by kernel_rfl) rfl rfl trivial (fun hHeld => ?_); refine with_tabW bulletinlaw13_AddrBack.tab13 bulletinlaw13_AddrBack.bits13 (fun HT_ HW_ => ?_)
           generalize w171.drew = w172 at BK479 BK483 BK488 BK495 BK500 HB hHeld ⊢
           refine pure_ (i := 0) (N := some 55) (v := ?_) (a' := ?_) (bitsL 29 1) rfl rfl (any_of HT_.out (by kernel_rfl)) (fun _ _ _ h => h) (Or.inl ⟨by rfl, ?_⟩) ?_ ?_
           rotate_left
           ·intro w'
            go_simp
            with_reducible rfl
           rotate_left
           ·simp only [Act.put, List.setIfInBounds_toArray, List.set_cons_zero, List.set_cons_succ, i64_w, i32_w]
            rfl
           refine pure_ (i := 1) (N := some 56) (v := ?_) (a' := ?_) (bitsL 29 3) rfl rfl (any_of HT_.out (by kernel_rfl)) (fun _ _ _ h => h) (Or.inl ⟨by rfl, ?_⟩) ?_ ?_
           rotate_left
           ·intro w'
            go_simp
            with_reducible rfl
           rotate_left
           ·simp only [Act.put, List.setIfInBounds_toArray, List.set_cons_zero, List.set_cons_succ, i64_w, i32_w]
            rfl
           refine pure_ (i := 2) (N := some 57) (v := ?_) (a' := ?_) (bitsL 29 7) rfl rfl (any_of HT_.out (by kernel_rfl)) (fun _ _ _ h => h) (Or.inl ⟨by rfl, ?_⟩) ?_ ?_
           rotate_left
           ·intro w'
            go_simp
            with_reducible rfl
           rotate_left
           ·simp only [Act.put, List.setIfInBounds_toArray, List.set_cons_zero, List.set_cons_succ, i64_w, i32_w]
            rfl
           refine pure_ (i := 3) (N := some 58) (v := undef) (a' := ?_) (bitsL 29 15) rfl rfl (any_of HT_.out (by kernel_rfl)) (fun _ _ _ h => h) (Or.inr ⟨by rfl, rfl⟩) ?_ ?_
           rotate_left
           ·simp only [Act.put, List.setIfInBounds_toArray, List.set_cons_zero, List.set_cons_succ, i64_w, i32_w]
            rfl
           refine pure_ (i := 4) (N := some 59) (v := undef) (a' := ?_) (bitsL 29 31) rfl rfl (any_of HT_.out (by kernel_rfl)) (fun _ _ _ h => h) (Or.inr ⟨by rfl, rfl⟩) ?_ ?_
           rotate_left
           ·simp only [Act.put, List.setIfInBounds_toArray, List.set_cons_zero, List.set_cons_succ, i64_w, i32_w]
            rfl
           refine pure_ (i := 5) (N := some 60) (v := undef) (a' := ?_) (bitsL 29 63) rfl rfl (any_of HT_.out (by kernel_rfl)) (fun _ _ _ h => h) (Or.inr ⟨by rfl, rfl⟩) ?_ ?_
           rotate_left
           ·simp only [Act.put, List.setIfInBounds_toArray, List.set_cons_zero, List.set_cons_succ, i64_w, i32_w]
            rfl
           refine pure_ (i := 6) (N := some 61) (v := ?_) (a' := ?_) (bitsL 29 127) rfl rfl (any_of HT_.out (by kernel_rfl)) (fun _ _ _ h => h) (Or.inl ⟨by rfl, ?_⟩) ?_ ?_
           rotate_left
           ·intro w'
            go_simp
            with_reducible rfl
           rotate_left
           ·simp only [Act.put, List.setIfInBounds_toArray, List.set_cons_zero, List.set_cons_succ, i64_w, i32_w]
            rfl
           refine pure_ (i := 7) (N := some 62) (v := ?_) (a' := ?_) (bitsL 29 255) rfl rfl (any_of HT_.out (by kernel_rfl)) (fun _ _ _ h => h) (Or.inl ⟨by rfl, ?_⟩) ?_ ?_
           rotate_left
           ·intro w'
            go_simp
            with_reducible rfl
           rotate_left
           ·simp only [Act.put, List.setIfInBounds_toArray, List.set_cons_zero, List.set_cons_succ, i64_w, i32_w]
            rfl
           refine pure_ (i := 8) (N := some 63) (v := undef) (a' := ?_) (bitsL 29 511) rfl rfl (any_of HT_.out (by kernel_rfl)) (fun _ _ _ h => h) (Or.inr ⟨by rfl, rfl⟩) ?_ ?_
           rotate_left
           ·simp only [Act.put, List.setIfInBounds_toArray, List.set_cons_zero, List.set_cons_succ, i64_w, i32_w]
            rfl
           refine pure_ (i := 9) (N := some 64) (v := undef) (a' := ?_) (bitsL 29 1023) rfl rfl (any_of HT_.out (by kernel_rfl)) (fun _ _ _ h => h) (Or.inr ⟨by rfl, rfl⟩) ?_ ?_
           rotate_left
           ·simp only [Act.put, List.setIfInBounds_toArray, List.set_cons_zero, List.set_cons_succ, i64_w, i32_w]
            rfl
           refine pure_ (i := 10) (N := some 65) (v := ?_) (a' := ?_) (bitsL 29 2047) rfl rfl (any_of HT_.out (by kernel_rfl)) (fun _ _ _ h => h) (Or.inl ⟨by rfl, ?_⟩) ?_ ?_
           rotate_left
           ·intro w'
            go_simp
            with_reducible rfl
           rotate_left
           ·simp only [Act.put, List.setIfInBounds_toArray, List.set_cons_zero, List.set_cons_succ, i64_w, i32_w]
            rfl
           refine pure_ (i := 11) (N := some 66) (v := ?_) (a' := ?_) (bitsL 29 4095) rfl rfl (any_of HT_.out (by kernel_rfl)) (fun _ _ _ h => h) (Or.inl ⟨by rfl, ?_⟩) ?_ ?_
           rotate_left
           ·intro w'
            go_simp
            with_reducible rfl
           rotate_left
           ·simp only [Act.put, List.setIfInBounds_toArray, List.set_cons_zero, List.set_cons_succ, i64_w, i32_w]
            rfl
           refine pure_ (i := 12) (N := some 67) (v := undef) (a' := ?_) (bitsL 29 8191) rfl rfl (any_of HT_.out (by kernel_rfl)) (fun _ _ _ h => h) (Or.inr ⟨by rfl, rfl⟩) ?_ ?_
           rotate_left
           ·simp only [Act.put, List.setIfInBounds_toArray, List.set_cons_zero, List.set_cons_succ, i64_w, i32_w]
            rfl
           refine pure_ (i := 13) (N := some 68) (v := undef) (a' := ?_) (bitsL 29 16383) rfl rfl (any_of HT_.out (by kernel_rfl)) (fun _ _ _ h => h) (Or.inr ⟨by rfl, rfl⟩) ?_ ?_
           rotate_left
           ·simp only [Act.put, List.setIfInBounds_toArray, List.set_cons_zero, List.set_cons_succ, i64_w, i32_w]
            rfl
           refine pure_ (i := 14) (N := some 69) (v := undef) (a' := ?_) (bitsL 29 32767) rfl rfl (any_of HT_.out (by kernel_rfl)) (fun _ _ _ h => h) (Or.inr ⟨by rfl, rfl⟩) ?_ ?_
           rotate_left
           ·simp only [Act.put, List.setIfInBounds_toArray, List.set_cons_zero, List.set_cons_succ, i64_w, i32_w]
            rfl
           refine pure_ (i := 15) (N := some 70) (v := undef) (a' := ?_) (bitsL 29 65535) rfl rfl (any_of HT_.out (by kernel_rfl)) (fun _ _ _ h => h) (Or.inr ⟨by rfl, rfl⟩) ?_ ?_
           rotate_left
           ·simp only [Act.put, List.setIfInBounds_toArray, List.set_cons_zero, List.set_cons_succ, i64_w, i32_w]
            rfl
           refine pure_ (i := 16) (N := some 71) (v := undef) (a' := ?_) (bitsL 29 131071) rfl rfl (any_of HT_.out (by kernel_rfl)) (fun _ _ _ h => h) (Or.inr ⟨by rfl, rfl⟩) ?_ ?_
           rotate_left
           ·simp only [Act.put, List.setIfInBounds_toArray, List.set_cons_zero, List.set_cons_succ, i64_w, i32_w]
            rfl
           refine pure_ (i := 17) (N := some 72) (v := ?_) (a' := ?_) (bitsL 29 262143) rfl rfl (any_of HT_.out (by kernel_rfl)) (fun _ _ _ h => h) (Or.inl ⟨by rfl, ?_⟩) ?_ ?_
           rotate_left
           ·intro w'
            go_simp
            with_reducible rfl
           rotate_left
           ·simp only [Act.put, List.setIfInBounds_toArray, List.set_cons_zero, List.set_cons_succ, i64_w, i32_w]
            rfl
           refine pure_ (i := 18) (N := some 73) (v := ?_) (a' := ?_) (bitsL 29 524287) rfl rfl (any_of HT_.out (by kernel_rfl)) (fun _ _ _ h => h) (Or.inl ⟨by rfl, ?_⟩) ?_ ?_
           rotate_left
           ·intro w'
            go_simp
            with_reducible rfl
           rotate_left
           ·simp only [Act.put, List.setIfInBounds_toArray, List.set_cons_zero, List.set_cons_succ, i64_w, i32_w]
            rfl
           refine pure_ (i := 19) (N := some 74) (v := undef) (a' := ?_) (bitsL 29 1048575) rfl rfl (any_of HT_.out (by kernel_rfl)) (fun _ _ _ h => h) (Or.inr ⟨by rfl, rfl⟩) ?_ ?_
           rotate_left
           ·simp only [Act.put, List.setIfInBounds_toArray, List.set_cons_zero, List.set_cons_succ, i64_w, i32_w]
            rfl
           refine pure_ (i := 20) (N := some 75) (v := undef) (a' := ?_) (bitsL 29 2097151) rfl rfl (any_of HT_.out (by kernel_rfl)) (fun _ _ _ h => h) (Or.inr ⟨by rfl, rfl⟩) ?_ ?_
           rotate_left
           ·simp only [Act.put, List.setIfInBounds_toArray, List.set_cons_zero, List.set_cons_succ, i64_w, i32_w]
            rfl
           refine pure_ (i := 21) (N := some 76) (v := undef) (a' := ?_) (bitsL 29 4194303) rfl rfl (any_of HT_.out (by kernel_rfl)) (fun _ _ _ h => h) (Or.inr ⟨by rfl, rfl⟩) ?_ ?_
           rotate_left
           ·simp only [Act.put, List.setIfInBounds_toArray, List.set_cons_zero, List.set_cons_succ, i64_w, i32_w]
            rfl
           refine pure_ (i := 22) (N := some 77) (v := undef) (a' := ?_) (bitsL 29 8388607) rfl rfl (any_of HT_.out (by kernel_rfl)) (fun _ _ _ h => h) (Or.inr ⟨by rfl, rfl⟩) ?_ ?_
           rotate_left
           ·simp only [Act.put, List.setIfInBounds_toArray, List.set_cons_zero, List.set_cons_succ, i64_w, i32_w]
            rfl
           refine pure_ (i := 23) (N := some 78) (v := undef) (a' := ?_) (bitsL 29 16777215) rfl rfl (any_of HT_.out (by kernel_rfl)) (fun _ _ _ h => h) (Or.inr ⟨by rfl, rfl⟩) ?_ ?_
           rotate_left
           ·simp only [Act.put, List.setIfInBounds_toArray, List.set_cons_zero, List.set_cons_succ, i64_w, i32_w]
            rfl
           refine pure_ (i := 24) (N := some 79) (v := undef) (a' := ?_) (bitsL 29 33554431) rfl rfl (any_of HT_.out (by kernel_rfl)) (fun _ _ _ h => h) (Or.inr ⟨by rfl, rfl⟩) ?_ ?_
           rotate_left
           ·simp only [Act.put, List.setIfInBounds_toArray, List.set_cons_zero, List.set_cons_succ, i64_w, i32_w]
            rfl
           refine pure_ (i := 25) (N := some 80) (v := undef) (a' := ?_) (bitsL 29 67108863) rfl rfl (any_of HT_.out (by kernel_rfl)) (fun _ _ _ h => h) (Or.inr ⟨by rfl, rfl⟩) ?_ ?_
           rotate_left
           ·simp only [Act.put, List.setIfInBounds_toArray, List.set_cons_zero, List.set_cons_succ, i64_w, i32_w]
            rfl
           refine pure_ (i := 26) (N := some 81) (v := undef) (a' := ?_) (bitsL 29 134217727) rfl rfl (any_of HT_.out (by kernel_rfl)) (fun _ _ _ h => h) (Or.inr ⟨by rfl, rfl⟩) ?_ ?_
           rotate_left
           ·simp only [Act.put, List.setIfInBounds_toArray, List.set_cons_zero, List.set_cons_succ, i64_w, i32_w]
            rfl
           refine pure_ (i := 27) (N := some 82) (v := ?_) (a' := ?_) (bitsL 29 268435455) rfl rfl (any_of HT_.out (by kernel_rfl)) (fun _ _ _ h => h) (Or.inl ⟨by rfl, ?_⟩) ?_ ?_
           rotate_left
           ·intro w'
            go_simp
            with_reducible rfl
           rotate_left
           ·simp only [Act.put, List.setIfInBounds_toArray, List.set_cons_zero, List.set_cons_succ, i64_w, i32_w]
            rfl
           refine pure_ (i := 28) (N := some 2) (v := ?_) (a' := ?_) (bitsL 29 536870911) rfl rfl (any_of HT_.out (by kernel_rfl)) (fun _ _ _ h => h) (Or.inl ⟨by rfl, ?_⟩) ?_ ?_
           rotate_left
           ·intro w'
            go_simp
            with_reducible rfl
           rotate_left
           ·simp only [Act.put, List.setIfInBounds_toArray, List.set_cons_zero, List.set_cons_succ, i64_w, i32_w]
            rfl
           refine done_ (done_of HT_.out (by kernel_rfl)) ?_
           as_aux_lemma =>
            try go_wp2
            go_ret
            exact ⟨by first | rfl | (simp [errW_none, errW_some] <;> rfl) | (simp [*, errW_none, errW_some] <;> rfl), by repeat (first | (with_reducible first | exact HB.out | apply below_alloc | apply pw_below_drewN | apply below_drew1 | refine below_set ?_ GE479.out | refine below_set ?_ GE483.out | refine below_set ?_ GE488.out | refine below_set ?_ GE495.out | refine below_set ?_ GE500.out) | exact HB.out)⟩
        ·replace c41 := Bool.eq_false_iff.mpr c41
         subst c41
         have H1 : (some true) = some r := by rw [if_neg (show ¬ (false = true) by decide)] at H; exact H
         clear H
         have H := H1
         clear H1
         obtain rfl := Option.some.inj H
         have hnb173 := NB483_479.out
         have hnc173 := NB479_483.out
         have hnb174 := NB483_488.out
         have hnc174 := NB488_483.out
         have hcz175_0 : wc.cell? ⟨gb483, 0, none⟩ = some (.string t481) := (blk_cell BK483.out 0).trans rfl
         have hcz175_1 : wc.cell? ⟨gb483, 1, none⟩ = some (.string t482) := (blk_cell BK483.out 1).trans rfl
         have hfz175_0 := blk_frozen BK483.out 0
         have hfz175_1 := blk_frozen BK483.out 1
         as_aux_lemma =>
          go_wp2_with (first | ((with_reducible refine gate_callee (f := 25) rfl ?_); refine goesL_ (some 41) rfl rfl Tryd.func25 (by kernel_rfl) rfl #[.agg #[.string t481, .string t482]] rfl am ?_; (with_reducible refine (addr_Addr_Right.calls kj13 t481 t482 false _ A40.out).mono ?_); rintro e w176 ⟨rfl, hb⟩; refine ⟨_, rfl, ?_⟩; have n0_ := Aside0.mk (blk_below (g := gb479) (o := .cells #[.string a0_0, .string a0_1] 31 (0, 0)) bk hb); have n1_ := Aside0.mk (blk_below (g := gb483) (o := .cells #[.string t481, .string t482] 32 (0, 0)) bk hb); have n2_ := Aside0.mk (blk_below (g := gb488) (o := .cells #[.string t485, .string t486] 32 (0, 0)) bk hb); have n3_ := Aside0.mk (below_step (by repeat (first | (with_reducible first | exact HB.out | apply below_alloc | apply pw_below_drewN | apply below_drew1 | refine below_set ?_ GE479.out | refine below_set ?_ GE483.out | refine below_set ?_ GE488.out) | exact HB.out)) hb); clear BK479; clear BK483; clear BK488; clear HB; have BK479 := n0_; have BK483 := n1_; have BK488 := n2_; have HB := n3_; clear n0_ n1_ n2_ n3_; (try clear hb); (try clear hb2); (try clear hk); (try clear hi)))
          go_ret
          exact ⟨by first | rfl | (simp [errW_none, errW_some] <;> rfl) | (simp [*, errW_none, errW_some] <;> rfl), by repeat (first | (with_reducible first | exact HB.out | apply below_alloc | apply pw_below_drewN | apply below_drew1 | refine below_set ?_ GE479.out | refine below_set ?_ GE483.out | refine below_set ?_ GE488.out) | exact HB.out)⟩
 ·replace c3 := Bool.eq_false_iff.mpr c3
  subst c3
  have H1 : (some false) = some r := by rw [if_neg (show ¬ (false = true) by decide)] at H; exact H
  clear H
  have H := H1
  clear H1
  obtain rfl := Option.some.inj H
  go_enter Tryd.func7, Tryd.ntmps7
  go_wp2_with (first | ((with_reducible refine gate_dst (N := 1) rfl ?_); (try (refine gate_guard (by rfl) ?_; dsimp only)); refine box_event ?hg (N := 1) ?hd (cs := #[.string a0_0, .string a0_1]) (t := 31) ?hr ?_; (case hd => rfl); (case hg => rfl); (case hr => first | (go_simp; done) | (go_simp; rfl)); intro gb479 hg w177 hbox hb; have n0_ := Aside0.mk (below_step bw hb); have n1_ := Aside0.mk (hbox); have n2_ := Aside0.mk ((by rw [hg]; exact (below_size bw) : w.heap.size ≤ gb479)); have n3_ := Aside0.mk ((by rw [hg]; exact (below_size bw) : w.heap.size ≤ gb479)); clear HB; have HB := n0_; have BK479 := n1_; have GW479 := n2_; have GE479 := n3_; clear n0_ n1_ n2_ n3_; clear hb hbox hg) | ((with_reducible refine gate_callee (f := 23) rfl ?_); refine goesL_ (some 10) rfl rfl Tryd.func23 (by kernel_rfl) rfl #[] rfl am ?_; (with_reducible refine (bulletinlaw13_works.calls k  false _ A2.out).mono ?_); rintro e w178 ⟨rfl, hb⟩; refine ⟨_, rfl, ?_⟩; have n0_ := Aside0.mk (blk_below (g := gb479) (o := .cells #[.string a0_0, .string a0_1] 31 (0, 0)) bk hb); have n1_ := Aside0.mk (below_step bwS hb); clear BK479; clear HB; have BK479 := n0_; have HB := n1_; clear n0_ n1_; (try clear hb); (try clear hb2); (try clear hk); (try clear hi)))
  go_ret
  exact ⟨by first | rfl | (simp [errW_none, errW_some] <;> rfl) | (simp [*, errW_none, errW_some] <;> rfl), by repeat (first | (with_reducible first | exact HB.out | apply below_alloc | apply pw_below_drewN | apply below_drew1 | refine below_set ?_ GE479.out) | exact HB.out)⟩

end Go.Proofs.YtlomcmdbbnbciaaDoor.Fn
set_option linter.unusedVariables false
namespace Go.Proofs.YtlomcmdbbnbciaaDoor.Pl
open Go.RowKit Go.Proofs.YtlomcmdbbnbciaaDoorW.PrintWords Go.Proofs.YtlomcmdbbnbciaaDoor.Fn

/-! Layer 13, the program's, over lists of bytes. -/
theorem mono_up {α : Type} {f : Nat → Option α} (h : ∀ k, LeO (f k) (f (k + 1))) {r : α} {k : Nat} (hr : f k = some r) : ∀ (k' : Nat), k ≤ k' → f k' = some r := by
  intro k' hk
  obtain ⟨d, rfl⟩ : ∃ d, k' = k + d := ⟨k' - k, by omega⟩
  clear hk
  induction d with
  | zero => exact hr
  | succ d ih => exact h (k + d) r ih

def splitL (c : UInt8) : Bytes → List Bytes
  | [] => [[]]
  | x :: l => if x = c then [] :: splitL c l else match splitL c l with
    | [] => [[x]]
    | w :: r => (x :: w) :: r
theorem splitL_ne (c : UInt8) (l : Bytes) : splitL c l ≠ [] := by
  cases l with
  | nil => simp [splitL]
  | cons x l =>
    rw [splitL]
    split
    · simp
    · split <;> simp
theorem indexByte_neg (c : UInt8) : ∀ l : Bytes, Lib.indexByte l c < 0 → splitL c l = [l]
  | [], _ => rfl
  | b :: l, h => by
    rw [Lib.indexByte] at h
    have hb : ¬ (b == c) = true := fun q => by rw [if_pos q] at h; omega
    rw [if_neg hb] at h
    by_cases h2 : (Lib.indexByte l c == -1) = true
    · have h3 : Lib.indexByte l c = -1 := by simpa using h2
      rw [splitL, if_neg (by simpa using hb), indexByte_neg c l (by omega)]
    · rw [if_neg h2] at h
      have := Lib.indexByte_ge l c
      have h4 : Lib.indexByte l c ≠ -1 := by simpa using h2
      omega
theorem indexByte_nat (c : UInt8) : ∀ (l : Bytes) (n : Nat), Lib.indexByte l c = n → splitL c l = l.take n :: splitL c (l.drop (n + 1))
  | [], n, h => by simp [Lib.indexByte] at h
  | b :: l, n, h => by
    rw [Lib.indexByte] at h
    by_cases hb : (b == c) = true
    · rw [if_pos hb] at h
      obtain rfl : n = 0 := by omega
      rw [splitL, if_pos (by simpa using hb)]
      simp
    · rw [if_neg hb] at h
      by_cases h2 : (Lib.indexByte l c == -1) = true
      · rw [if_pos h2] at h; omega
      · rw [if_neg h2] at h
        have h3 := Lib.indexByte_ge l c
        have h4 : Lib.indexByte l c ≠ -1 := by simpa using h2
        obtain ⟨m, rfl⟩ : ∃ m, n = m + 1 := ⟨n - 1, by omega⟩
        have ih := indexByte_nat c l m (by omega)
        rw [splitL, if_neg (by simpa using hb), ih]
        simp
theorem cuts_split (c : UInt8) : ∀ (n : Nat) (s : ByteArray), s.size ≤ n → (cuts (findOne c) 1 s).map bs = splitL c (bs s)
  | n, s, hn => by
    by_cases h0 : findOne c s < 0
    · rw [cuts_last (finds_one c) s h0, indexByte_neg c (bs s) h0]
      rfl
    · obtain ⟨N, hN⟩ : ∃ N : Nat, findOne c s = (N : Int) := ⟨(findOne c s).toNat, by omega⟩
      have hfit := (finds_one c).fits s (by omega)
      rw [hN] at hfit
      simp only [Int.toNat_natCast] at hfit
      rw [cuts_more (finds_one c) s h0, hN, indexByte_nat c (bs s) N hN]
      obtain ⟨n, rfl⟩ : ∃ m, n = m + 1 := ⟨n - 1, by omega⟩
      have ih := cuts_split c n (s.extract (N + 1) s.size) (by simp only [ByteArray.size_extract]; omega)
      simp only [Int.toNat_natCast, List.map_cons, ih, bs_extract, List.drop_zero]
      rw [List.take_of_length_le (i := s.size) (by rw [bs_length]; exact Nat.le_refl _)]
theorem dots_split (s : ByteArray) : (dots s).map bs = splitL 46 (bs s) := cuts_split 46 s.size s (Nat.le_refl _)
theorem all_map_bs (p : Bytes → Bool) (l : List ByteArray) : (l.map bs).all p = l.all (fun x => p (bs x)) := by
  rw [List.all_map]; rfl

def atomL (w : Bytes) : Bool := w.all atomic && !w.isEmpty
def dottedL (l : Bytes) : Bool := (splitL 46 l).all atomL
theorem dotted_L (s : ByteArray) : dotted s = dottedL (bs s) := by
  unfold dotted dottedL
  rw [← dots_split, all_map_bs]
  rfl
def domLongL (l : Bytes) : Bool := decide (253 < l.length) || (splitL 46 l).any (fun w => decide (63 < w.length))
def domainL (l : Bytes) : Int := if (splitL 46 l).all labelL = true then (if domLongL l = true then 2 else 0) else 130
theorem domain_L (s : ByteArray) : domain s = domainL (bs s) := by
  unfold domain domainL domLong domLongL
  rw [← dots_split, all_map_bs, List.any_map]
  have e1 : (dots s).all label = (dots s).all (fun x => labelL (bs x)) := rfl
  have e2 : ((fun w : Bytes => decide (63 < w.length)) ∘ bs) = (fun x : ByteArray => decide (63 < (x.size : Int))) := by
    funext x
    simp only [Function.comp, bs_length]
    congr 1
    exact propext ⟨fun h => by omega, fun h => by omega⟩
  have e3 : decide (253 < (bs s).length) = decide (253 < (s.size : Int)) := by
    rw [bs_length]
    congr 1
    exact propext ⟨fun h => by omega, fun h => by omega⟩
  rw [e1, e2, e3]

/-! Quote -/
def text (c : UInt8) : Bool := (lex_text.f (c.toNat : Int)).getD false
theorem text_is (c : UInt8) : lex_text.f (c.toNat : Int) = some (text c) := by
  have : ∀ x : Int, (lex_text.f x).isSome := by
    intro x
    unfold lex_text.f
    repeat' split
    all_goals rfl
  unfold text
  have h := this (c.toNat : Int)
  cases hx : lex_text.f (c.toNat : Int) with
  | none => rw [hx] at h; cases h
  | some b => rfl
def qB (c : UInt8) : Bytes := if c = 34 ∨ c = 92 then [92, c] else if text c = true then [c] else [32]
def quote (l : Bytes) : Bytes := 34 :: (l.flatMap qB ++ [34])
def numsOf (l : Bytes) : List Int := l.map fun c => (c.toNat : Int)
theorem strOfNums_of (l : Bytes) : strOfNums (numsOf l) = str l := by
  unfold strOfNums numsOf str
  congr 2
  rw [List.map_map]
  conv => rhs; rw [← List.map_id l]
  apply List.map_congr_left
  intro c _
  simp
theorem numsOf_app (a b : Bytes) : numsOf (a ++ b) = numsOf a ++ numsOf b := by simp [numsOf]
theorem numsOf_length (a : Bytes) : (numsOf a).length = a.length := by simp [numsOf]
theorem byte_eq (c : UInt8) (n : Nat) (h : n < 256) : ((c.toNat : Int) = (n : Int)) = (c = UInt8.ofNat n) := by
  apply propext
  constructor
  · intro q
    apply UInt8.toNat_inj.1
    simp
    omega
  · intro q
    rw [q]
    simp
    omega
theorem lexQuote_l0 (s : ByteArray) (hs : s.size ≤ 1000000000) : ∀ (rest : Bytes) (i k : Nat) (acc : Bytes), (bs s).drop i = rest → i ≤ (bs s).length → 2 * rest.length + 1 ≤ k → acc.length ≤ 2 * i + 1 →
    lex_Quote.l0 k s (numsOf acc) (s.size : Int) (i : Int) = some (str (acc ++ rest.flatMap qB ++ [34]))
  | [], i, k, acc, hd, hi, hk, ha => by
    obtain ⟨k, rfl⟩ : ∃ j, k = j + 1 := ⟨k - 1, by omega⟩
    have := drop_nil hd
    rw [bs_length] at this hi
    rw [lex_Quote.l0, if_neg (by omega), if_pos (by rw [numsOf_length]; omega)]
    rw [show numsOf acc ++ [34] = numsOf (acc ++ [34]) by rw [numsOf_app]; rfl, strOfNums_of]
    simp
  | c :: rest, i, k, acc, hd, hi, hk, ha => by
    obtain ⟨k, rfl⟩ : ∃ j, k = j + 1 + 1 := ⟨k - 2, by simp at hk; omega⟩
    obtain ⟨h1, h2, h3, h4⟩ := drop_cons hd
    have h5 : i < s.size := by rw [bs_length] at h1; exact h1
    simp only [List.length_cons] at hk
    have e34 : ((c.toNat : Int) = 34) = (c = 34) := byte_eq c 34 (by decide)
    have e92 : ((c.toNat : Int) = 92) = (c = 92) := byte_eq c 92 (by decide)
    have goon : ∀ acc' : Bytes, acc'.length ≤ acc.length + 2 → lex_Quote.l0 k s (numsOf acc') (s.size : Int) (wrap64 ((i : Int) + 1)) = some (str (acc' ++ rest.flatMap qB ++ [34])) := by
      intro acc' hl
      rw [wrap_succ i (by omega)]
      exact lexQuote_l0 s hs rest (i + 1) k acc' h3 (by omega) (by omega) (by omega)
    have hl1 : (numsOf acc).length < 140737488355328 := by rw [numsOf_length]; omega
    have esc : c = 34 ∨ c = 92 → lex_Quote.j1 (k + 1) s (numsOf acc) (c.toNat : Int) (s.size : Int) (i : Int) true = some (str (acc ++ (c :: rest).flatMap qB ++ [34])) := by
      intro hc
      rw [lex_Quote.j1, if_pos rfl, if_pos hl1]
      simp only [Option.bind_some]
      rw [if_pos (by rw [List.length_append, numsOf_length]; simp; omega)]
      rw [show numsOf acc ++ [92] ++ [(c.toNat : Int)] = numsOf (acc ++ [92, c]) by simp [numsOf], goon _ (by simp)]
      simp [qB, hc]
    rw [lex_Quote.l0, if_pos (by omega), if_pos (by omega), if_pos (by omega), bt_drop hd]
    by_cases c34 : c = 34
    · rw [if_pos (by rw [e34]; exact c34), esc (.inl c34)]
    · rw [if_neg (by rw [e34]; exact c34)]
      by_cases c92 : c = 92
      · rw [show ((c.toNat : Int) == 92) = true by rw [beq_iff_eq, e92]; exact c92, esc (.inr c92)]
      · rw [show ((c.toNat : Int) == 92) = false by rw [beq_eq_false_iff_ne, ne_eq, e92]; exact c92, lex_Quote.j1, if_neg (by decide), text_is]
        simp only [Option.bind_some]
        have hn : ¬ (c = 34 ∨ c = 92) := fun h => h.elim c34 c92
        cases ht : text c with
        | true =>
          rw [if_pos rfl, if_pos hl1, show numsOf acc ++ [(c.toNat : Int)] = numsOf (acc ++ [c]) by simp [numsOf], goon _ (by simp)]
          simp [qB, hn, ht]
        | false =>
          rw [if_neg (by decide), if_pos hl1, show numsOf acc ++ [32] = numsOf (acc ++ [32]) by simp [numsOf], goon _ (by simp)]
          simp [qB, hn, ht]
theorem lexQuote_is (s : ByteArray) (hs : s.size ≤ 1000000000) (k : Nat) (hk : 2 * s.size + 1 ≤ k) : lex_Quote.f k s = some (str (quote (bs s))) := by
  have := lexQuote_l0 s hs (bs s) 0 k [34] (by simp) (by omega) (by rw [bs_length]; omega) (by simp)
  unfold lex_Quote.f quote
  exact this
theorem quote_length (l : Bytes) : (quote l).length ≤ 2 * l.length + 2 := by
  have h : (l.flatMap qB).length ≤ 2 * l.length := by
    induction l with
    | nil => simp
    | cons c l ih =>
      have : (qB c).length ≤ 2 := by unfold qB; repeat' split
                                     all_goals simp
      simp only [List.flatMap_cons, List.length_append, List.length_cons]
      omega
  unfold quote
  simp only [List.length_cons, List.length_append, List.length_nil]
  omega

/-! Text, Key, why, Right -/
def localL (a : Bytes) : Bytes := if dottedL a = true then a else quote a
def textL (a b : Bytes) : Bytes := localL a ++ 64 :: b
theorem localL_length (a : Bytes) : (localL a).length ≤ 2 * a.length + 2 := by
  unfold localL
  have := quote_length a
  split <;> omega
theorem addrText_is (a b : ByteArray) (ha : a.size ≤ 1000000) (hb : b.size ≤ 1000000) (k : Nat) (hk : 2 * a.size + 1 ≤ k) : addr_Addr_Text.f k a b = some (str (textL (bs a) (bs b))) := by
  unfold addr_Addr_Text.f addr_Dotted.f textL localL
  rw [if_pos (by omega)]
  simp only [Option.bind_some]
  rw [dotted_L]
  cases hd : dottedL (bs a) with
  | true =>
    rw [if_pos rfl, if_pos (by omega), if_pos (by simp only [ByteArray.size_append]; have : (⟨#[64]⟩ : ByteArray).size = 1 := rfl; omega), if_pos rfl]
    congr 1
    apply bs_inj
    rw [bs_app, bs_app, bs_str]
    simp [bs]
  | false =>
    have hq := quote_length (bs a)
    rw [bs_length] at hq
    rw [if_neg (by decide), lexQuote_is a (by omega) k hk]
    simp only [Option.bind_some]
    rw [if_pos (by rw [str_size]; omega), if_pos (by simp only [ByteArray.size_append, str_size]; have : (⟨#[64]⟩ : ByteArray).size = 1 := rfl; omega), if_neg (by decide)]
    congr 1
    apply bs_inj
    rw [bs_app, bs_app, bs_str, bs_str]
    simp [bs]
theorem textL_length (a b : Bytes) : (textL a b).length ≤ 2 * a.length + 3 + b.length := by
  unfold textL
  have := localL_length a
  simp
  omega
theorem addrKey_is (a b : ByteArray) (ha : a.size ≤ 1000000) (hb : b.size ≤ 1000000) (k : Nat) (hk : 2 * a.size + 1 ≤ k) : addr_Addr_Key.f k a b = some (str (fold (textL (bs a) (bs b)))) := by
  unfold addr_Addr_Key.f
  rw [addrText_is a b ha hb k hk]
  have := textL_length (bs a) (bs b)
  rw [bs_length, bs_length] at this
  simp only [Option.bind_some]
  unfold glyph_Fold.f
  rw [if_pos (by rw [str_size]; omega)]
  simp only [Option.bind_some]
  rw [show (str (textL (bs a) (bs b))).data.toList = textL (bs a) (bs b) from str_data _]
def why (a b : ByteArray) : Int :=
  if domain b = 130 ∨ bs a = [] ∨ plain a = false then 130
  else if domain b ≠ 0 ∨ 64 < a.size ∨ 254 < (textL (bs a) (bs b)).length then 2 else 0
theorem addrWhy_is (a b : ByteArray) (ha : a.size ≤ 1000000) (hb : b.size ≤ 1000000) (k : Nat) (hk : 2 * a.size + 1 + 1 ≤ k) : addr_why.f k a b = some (why a b) := by
  unfold addr_why.f addr_domain.f why
  rw [if_pos (by omega)]
  simp only [Option.bind_some]
  obtain ⟨k, rfl⟩ : ∃ j, k = j + 1 := ⟨k - 1, by omega⟩
  have yes : addr_why.j0 (k + 1) (domain b) true a b = some 130 := by rw [addr_why.j0, if_pos rfl]
  by_cases h1 : domain b = 130
  · rw [if_pos h1, if_pos (.inl h1), yes]
  · rw [if_neg h1]
    by_cases h2 : bs a = []
    · rw [if_pos (by rw [toList_bs]; exact h2), if_pos (.inr (.inl h2)), yes]
    · rw [if_neg (by rw [toList_bs]; exact h2)]
      unfold glyph_Plain.f
      rw [if_pos (by omega)]
      simp only [Option.bind_some]
      cases hp : plain a with
      | false => rw [if_pos (.inr (.inr rfl)), show (!false) = true from rfl, yes]
      | true =>
        rw [if_neg (by simp [h1, h2]), show (!true) = false from rfl, addr_why.j0, if_neg (by decide)]
        by_cases h3 : domain b = 0
        · rw [if_pos h3]
          by_cases h4 : (a.size : Int) > 64
          · rw [if_pos h4, if_pos (.inr (.inl (by omega)))]
          · rw [if_neg h4, addrText_is a b ha hb k (by omega)]
            simp only [Option.bind_some]
            rw [str_size]
            by_cases h5 : ((textL (bs a) (bs b)).length : Int) > 254
            · rw [if_pos h5, if_pos (.inr (.inr (by omega)))]
            · rw [if_neg h5, if_neg (by rintro (h | h | h); exact h h3; omega; omega)]
        · rw [if_neg h3, if_pos (.inl h3)]
def right (a b : ByteArray) : Bool := decide (why a b = 0) && (bs b == fold (bs b))
theorem addrRight_is (a b : ByteArray) (ha : a.size ≤ 1000000) (hb : b.size ≤ 1000000) (k : Nat) (hk : 2 * a.size + 1 + 1 ≤ k) : addr_Addr_Right.f k a b = some (right a b) := by
  unfold addr_Addr_Right.f right
  rw [addrWhy_is a b ha hb k hk]
  simp only [Option.bind_some]
  by_cases h : why a b = 0
  · rw [if_pos h]
    unfold glyph_Fold.f
    rw [if_pos (by omega)]
    simp only [Option.bind_some]
    rw [toList_bs, toList_str]
    simp [h, bs]
  · rw [if_neg h]
    simp [h]
end Go.Proofs.YtlomcmdbbnbciaaDoor.Pl
set_option linter.unusedVariables false
namespace Go.Proofs.YtlomcmdbbnbciaaDoor.Pl
open Go.RowKit Go.Proofs.YtlomcmdbbnbciaaDoorW.PrintWords Go.Proofs.YtlomcmdbbnbciaaDoor.Fn

/-! Capital letters, dots, quotes and the sign @. -/
theorem forall_byte {p : UInt8 → Prop} [DecidablePred p] (h : ∀ i : Fin 256, p (UInt8.ofNat i.val)) (c : UInt8) : p c := by
  have := h ⟨c.toNat, c.toNat_lt⟩
  simpa using this
set_option maxRecDepth 100000 in
theorem atomic_fold (c : UInt8) : atomic (foldB c) = atomic c := forall_byte (p := fun c => atomic (foldB c) = atomic c) (by decide +kernel) c
set_option maxRecDepth 100000 in
theorem foldB_46 (c : UInt8) : (foldB c = 46) = (c = 46) := propext (forall_byte (p := fun c => foldB c = 46 ↔ c = 46) (by decide +kernel) c)
set_option maxRecDepth 100000 in
theorem foldB_idem (c : UInt8) : foldB (foldB c) = foldB c := forall_byte (p := fun c => foldB (foldB c) = foldB c) (by decide +kernel) c
set_option maxRecDepth 100000 in
theorem qB_fold (c : UInt8) : fold (qB c) = qB (foldB c) := forall_byte (p := fun c => fold (qB c) = qB (foldB c)) (by decide +kernel) c
def plainB (c : UInt8) : Bool := decide (32 ≤ c.toNat) && decide (c.toNat ≤ 126)
set_option maxRecDepth 100000 in
theorem plain_text (c : UInt8) : plainB c = true → text c = true := forall_byte (p := fun c => plainB c = true → text c = true) (by decide +kernel) c
theorem fold_idem (l : Bytes) : fold (fold l) = fold l := by
  unfold fold
  rw [List.map_map]
  apply List.map_congr_left
  intro c _
  exact foldB_idem c
theorem fold_app (a b : Bytes) : fold (a ++ b) = fold a ++ fold b := by simp [fold]
theorem fold_cons (a : UInt8) (b : Bytes) : fold (a :: b) = foldB a :: fold b := rfl
theorem splitL_fold : ∀ l : Bytes, splitL 46 (fold l) = (splitL 46 l).map fold
  | [] => rfl
  | x :: l => by
    rw [fold_cons, splitL, splitL, splitL_fold l]
    by_cases h : x = 46
    · rw [if_pos (by rw [foldB_46]; exact h), if_pos h]; rfl
    · rw [if_neg (by rw [foldB_46]; exact h), if_neg h]
      cases splitL 46 l <;> rfl
theorem atomL_fold (w : Bytes) : atomL (fold w) = atomL w := by
  unfold atomL fold
  rw [List.all_map, show (atomic ∘ foldB) = atomic from funext atomic_fold]
  congr 1
  cases w <;> rfl
theorem dottedL_fold (l : Bytes) : dottedL (fold l) = dottedL l := by
  unfold dottedL
  rw [splitL_fold, List.all_map, show (atomL ∘ fold) = atomL from funext atomL_fold]
theorem quote_fold (l : Bytes) : fold (quote l) = quote (fold l) := by
  have h : fold (l.flatMap qB) = (fold l).flatMap qB := by
    induction l with
    | nil => rfl
    | cons c l ih => rw [List.flatMap_cons, fold_app, qB_fold, ih, fold_cons, List.flatMap_cons]
  unfold quote
  rw [fold_cons, fold_app, h]
  rfl
theorem localL_fold (l : Bytes) : fold (localL l) = localL (fold l) := by
  unfold localL
  rw [dottedL_fold]
  split
  · rfl
  · exact quote_fold l
theorem labelL_bytes {w : Bytes} (h : labelL w = true) {c : UInt8} (hc : c ∈ w) : labelled c = true := by
  unfold labelL at h
  rw [Bool.and_eq_true] at h
  exact List.all_eq_true.1 h.1 c hc
theorem glyphFold_is (s : ByteArray) (h : s.size ≤ 1000000000) : glyph_Fold.f s = some (str (fold (bs s))) := by
  unfold glyph_Fold.f
  rw [if_pos (by omega)]
  rfl

/-! plain: of all bytes -/
theorem plainFrom_bytes (s : ByteArray) : ∀ (f pos : Nat), s.size ≤ pos + f → pos ≤ s.size → plainFrom s f pos = ((bs s).drop pos).all plainB := by
  intro f
  induction f with
  | zero =>
    intro pos h1 h2
    rw [plainFrom, List.drop_of_length_le (by rw [bs_length]; omega)]
    rfl
  | succ f ih =>
    intro pos h1 h2
    rw [plainFrom]
    by_cases hp : pos < s.size
    · rw [if_pos hp]
      have hl : pos < (bs s).length := by rw [bs_length]; exact hp
      have hd : (bs s).drop pos = (bs s)[pos] :: (bs s).drop (pos + 1) := List.drop_eq_getElem_cons hl
      rw [hd, List.all_cons]
      have hg : s.get! pos = (bs s)[pos] := by
        simp [ByteArray.get!, getElem!_pos, hp, bs]
      by_cases hb : (bs s)[pos].toNat < 128
      · have hdec : Utf8.decode s pos = ((bs s)[pos].toNat, 1) := by
          rw [Lib.decode_at, hg]
          unfold Lib.decodeN
          rw [if_pos hb]
        rw [hdec]
        by_cases hpl : plainB (bs s)[pos] = true
        · rw [if_pos (by exact hpl), ih (pos + 1) (by omega) (by omega), hpl, Bool.true_and]
        · rw [if_neg (by exact hpl)]
          rw [Bool.not_eq_true] at hpl
          rw [hpl, Bool.false_and]
      · have hdec : 128 ≤ (Utf8.decode s pos).1 := by
          rw [Lib.decode_at, hg]
          unfold Lib.decodeN
          rw [if_neg hb]
          have := (bs s)[pos].toNat_lt
          repeat' split
          all_goals (first | omega | (simp only []; omega))
        rw [if_neg (by unfold plainR; simp; omega)]
        have : plainB (bs s)[pos] = false := by unfold plainB; simp; omega
        rw [this, Bool.false_and]
    · rw [if_neg hp, List.drop_of_length_le (by rw [bs_length]; omega)]
      rfl
theorem plain_L (s : ByteArray) : plain s = (bs s).all plainB := by
  unfold plain
  rw [plainFrom_bytes s s.size 0 (by omega) (by omega), List.drop_zero]
end Go.Proofs.YtlomcmdbbnbciaaDoor.Pl
-- written by xprint.py of this session over the kit's printer; not trusted: Lean checks it
namespace Go.Proofs.YtlomcmdbbnbciaaDoor.Fn
open Go.RowKit Go.Proofs.YtlomcmdbbnbciaaDoorW.PrintWords Go.Proofs.YtlomcmdbbnbciaaDoorW.PrintLast Go.Proofs.YtlomcmdbbnbciaaDoorW.PrintMore
attribute [local go_sem] max2_int min2_int max_two min_two max_three min_three max_four min_four   -- for this text's walks alone
set_option linter.unusedVariables false
set_option linter.unusedSimpArgs false

/-! ### bulletinref06_Fold: function 78 -/
def bulletinref06_Fold.l0 : Nat → ByteArray → ByteArray → Int → Option (ByteArray)
 | 0, _, _, _ => none
 | k + 1, x0, x3, x4 => if x4 < (x0.size : Int) then (if 0 ≤ x4 then (if (bt x0 x4) ≥ 65 then (if (bt x0 x4) ≤ 90 then ((some (([((bt x0 x4) + 32) % 256] : List Int) : List Int)).bind fun y358 => (if x3.size + (strOfNums y358).size ≤ 9223372036854775807 then (bulletinref06_Fold.l0 k x0 (x3 ++ (strOfNums y358)) (wrap64 (x4 + 1))) else (none))) else (if x4 ≤ (wrap64 (x4 + 1)) then (if (wrap64 (x4 + 1)) ≤ (x0.size : Int) then (if x3.size + (x0.extract (x4 : Int).toNat ((wrap64 (x4 + 1)) : Int).toNat).size ≤ 9223372036854775807 then (bulletinref06_Fold.l0 k x0 (x3 ++ (x0.extract (x4 : Int).toNat ((wrap64 (x4 + 1)) : Int).toNat)) (wrap64 (x4 + 1))) else (none)) else (none)) else (none))) else (if x4 ≤ (wrap64 (x4 + 1)) then (if (wrap64 (x4 + 1)) ≤ (x0.size : Int) then (if x3.size + (x0.extract (x4 : Int).toNat ((wrap64 (x4 + 1)) : Int).toNat).size ≤ 9223372036854775807 then (bulletinref06_Fold.l0 k x0 (x3 ++ (x0.extract (x4 : Int).toNat ((wrap64 (x4 + 1)) : Int).toNat)) (wrap64 (x4 + 1))) else (none)) else (none)) else (none))) else (none)) else (some x3)
def bulletinref06_Fold.f (k : Nat) (a0 : ByteArray) : Option (ByteArray) := bulletinref06_Fold.l0 k a0 (⟨#[]⟩ : ByteArray) 0
end Go.Proofs.YtlomcmdbbnbciaaDoor.Fn
-- written by xprint.py of this session over the kit's printer; not trusted: Lean checks it
namespace Go.Proofs.YtlomcmdbbnbciaaDoor.Fn
open Go.RowKit Go.Proofs.YtlomcmdbbnbciaaDoorW.PrintWords Go.Proofs.YtlomcmdbbnbciaaDoorW.PrintLast Go.Proofs.YtlomcmdbbnbciaaDoorW.PrintMore
attribute [local go_sem] max2_int min2_int max_two min_two max_three min_three max_four min_four   -- for this text's walks alone
set_option linter.unusedVariables false
set_option linter.unusedSimpArgs false

/-! ### bulletinref13_Split: function 76 -/
def bulletinref13_Split.l0 : Nat → ByteArray → Int → List ByteArray → ByteArray → Int → Option (List ByteArray)
 | 0, _, _, _, _, _ => none
 | k + 1, x0, x1, x5, x6, x7 => if x7 < (x0.size : Int) then (if 0 ≤ x7 then (if (bt x0 x7) = x1 then (if x5.length < 8796093022208 then (bulletinref13_Split.l0 k x0 x1 (x5 ++ [x6]) (⟨#[]⟩ : ByteArray) (wrap64 (x7 + 1))) else (none)) else (if x7 ≤ (wrap64 (x7 + 1)) then (if (wrap64 (x7 + 1)) ≤ (x0.size : Int) then (if x6.size + (x0.extract (x7 : Int).toNat ((wrap64 (x7 + 1)) : Int).toNat).size ≤ 9223372036854775807 then (bulletinref13_Split.l0 k x0 x1 x5 (x6 ++ (x0.extract (x7 : Int).toNat ((wrap64 (x7 + 1)) : Int).toNat)) (wrap64 (x7 + 1))) else (none)) else (none)) else (none))) else (none)) else (if x5.length < 8796093022208 then (some (x5 ++ [x6])) else (none))
def bulletinref13_Split.f (k : Nat) (a0 : ByteArray) (a1 : Int) : Option (List ByteArray) := bulletinref13_Split.l0 k a0 a1 ([] : List ByteArray) (⟨#[]⟩ : ByteArray) 0
end Go.Proofs.YtlomcmdbbnbciaaDoor.Fn
-- written by xprint.py of this session over the kit's printer; not trusted: Lean checks it
namespace Go.Proofs.YtlomcmdbbnbciaaDoor.Fn
open Go.RowKit Go.Proofs.YtlomcmdbbnbciaaDoorW.PrintWords Go.Proofs.YtlomcmdbbnbciaaDoorW.PrintLast Go.Proofs.YtlomcmdbbnbciaaDoorW.PrintMore
attribute [local go_sem] max2_int min2_int max_two min_two max_three min_three max_four min_four   -- for this text's walks alone
set_option linter.unusedVariables false
set_option linter.unusedSimpArgs false

/-! ### bulletinref13_label: function 77 -/
mutual
def bulletinref13_label.l0 : Nat → ByteArray → Int → Option (Bool)
 | 0, _, _ => none
 | k + 1, x0, x3 => if x3 < (x0.size : Int) then (if 0 ≤ x3 then (if (bt x0 x3) ≥ 65 then (bulletinref13_label.j1 k x0 x3 (bt x0 x3) (decide ((bt x0 x3) ≤ 90))) else (bulletinref13_label.j1 k x0 x3 (bt x0 x3) false)) else (none)) else (some (x0.toList != ([] : List UInt8)))
def bulletinref13_label.j1 : Nat → ByteArray → Int → Int → Bool → Option (Bool)
 | 0, _, _, _, _ => none
 | k + 1, x0, x3, x4, x20 => if x20 = true then (if x3 = 0 then (if ((x4 + 32) % 256) ≥ 97 then (if ((x4 + 32) % 256) ≤ 122 then (bulletinref13_label.l0 k x0 (wrap64 (x3 + 1))) else (if ((x4 + 32) % 256) ≥ 48 then (if ((x4 + 32) % 256) ≤ 57 then (bulletinref13_label.l0 k x0 (wrap64 (x3 + 1))) else (if ((x4 + 32) % 256) = 45 then (some false) else (some false))) else (if ((x4 + 32) % 256) = 45 then (some false) else (some false)))) else (if ((x4 + 32) % 256) ≥ 48 then (if ((x4 + 32) % 256) ≤ 57 then (bulletinref13_label.l0 k x0 (wrap64 (x3 + 1))) else (if ((x4 + 32) % 256) = 45 then (some false) else (some false))) else (if ((x4 + 32) % 256) = 45 then (some false) else (some false)))) else (if ((x4 + 32) % 256) ≥ 97 then (if ((x4 + 32) % 256) ≤ 122 then (bulletinref13_label.l0 k x0 (wrap64 (x3 + 1))) else (if ((x4 + 32) % 256) ≥ 48 then (if ((x4 + 32) % 256) ≤ 57 then (bulletinref13_label.l0 k x0 (wrap64 (x3 + 1))) else (if ((x4 + 32) % 256) = 45 then (if x3 = (wrap64 ((x0.size : Int) - 1)) then (some false) else (bulletinref13_label.l0 k x0 (wrap64 (x3 + 1)))) else (some false))) else (if ((x4 + 32) % 256) = 45 then (if x3 = (wrap64 ((x0.size : Int) - 1)) then (some false) else (bulletinref13_label.l0 k x0 (wrap64 (x3 + 1)))) else (some false)))) else (if ((x4 + 32) % 256) ≥ 48 then (if ((x4 + 32) % 256) ≤ 57 then (bulletinref13_label.l0 k x0 (wrap64 (x3 + 1))) else (if ((x4 + 32) % 256) = 45 then (if x3 = (wrap64 ((x0.size : Int) - 1)) then (some false) else (bulletinref13_label.l0 k x0 (wrap64 (x3 + 1)))) else (some false))) else (if ((x4 + 32) % 256) = 45 then (if x3 = (wrap64 ((x0.size : Int) - 1)) then (some false) else (bulletinref13_label.l0 k x0 (wrap64 (x3 + 1)))) else (some false))))) else (if x3 = 0 then (if x4 ≥ 97 then (if x4 ≤ 122 then (bulletinref13_label.l0 k x0 (wrap64 (x3 + 1))) else (if x4 ≥ 48 then (if x4 ≤ 57 then (bulletinref13_label.l0 k x0 (wrap64 (x3 + 1))) else (if x4 = 45 then (some false) else (some false))) else (if x4 = 45 then (some false) else (some false)))) else (if x4 ≥ 48 then (if x4 ≤ 57 then (bulletinref13_label.l0 k x0 (wrap64 (x3 + 1))) else (if x4 = 45 then (some false) else (some false))) else (if x4 = 45 then (some false) else (some false)))) else (if x4 ≥ 97 then (if x4 ≤ 122 then (bulletinref13_label.l0 k x0 (wrap64 (x3 + 1))) else (if x4 ≥ 48 then (if x4 ≤ 57 then (bulletinref13_label.l0 k x0 (wrap64 (x3 + 1))) else (if x4 = 45 then (if x3 = (wrap64 ((x0.size : Int) - 1)) then (some false) else (bulletinref13_label.l0 k x0 (wrap64 (x3 + 1)))) else (some false))) else (if x4 = 45 then (if x3 = (wrap64 ((x0.size : Int) - 1)) then (some false) else (bulletinref13_label.l0 k x0 (wrap64 (x3 + 1)))) else (some false)))) else (if x4 ≥ 48 then (if x4 ≤ 57 then (bulletinref13_label.l0 k x0 (wrap64 (x3 + 1))) else (if x4 = 45 then (if x3 = (wrap64 ((x0.size : Int) - 1)) then (some false) else (bulletinref13_label.l0 k x0 (wrap64 (x3 + 1)))) else (some false))) else (if x4 = 45 then (if x3 = (wrap64 ((x0.size : Int) - 1)) then (some false) else (bulletinref13_label.l0 k x0 (wrap64 (x3 + 1)))) else (some false)))))
end
def bulletinref13_label.f (k : Nat) (a0 : ByteArray) : Option (Bool) := bulletinref13_label.l0 k a0 0
end Go.Proofs.YtlomcmdbbnbciaaDoor.Fn
-- written by xprint.py of this session over the kit's printer; not trusted: Lean checks it
namespace Go.Proofs.YtlomcmdbbnbciaaDoor.Fn
open Go.RowKit Go.Proofs.YtlomcmdbbnbciaaDoorW.PrintWords Go.Proofs.YtlomcmdbbnbciaaDoorW.PrintLast Go.Proofs.YtlomcmdbbnbciaaDoorW.PrintMore
attribute [local go_sem] max2_int min2_int max_two min_two max_three min_three max_four min_four   -- for this text's walks alone
set_option linter.unusedVariables false
set_option linter.unusedSimpArgs false

/-! ### bulletinref13_Domain: function 28 -/
def bulletinref13_Domain.l0 : Nat → ByteArray → List ByteArray → Bool → Int → Option (ByteArray × Int)
 | 0, _, _, _, _ => none
 | k + 1, x0, x4, x5, x6 => if x6 < (x4.length : Int) then (if 0 ≤ x6 then ((bulletinref13_label.f k (rdOf ByteArray.empty x4 x6)).bind fun t366 => (if t366 = true then (if ((rdOf ByteArray.empty x4 x6).size : Int) > 63 then (bulletinref13_Domain.l0 k x0 x4 true (wrap64 (x6 + 1))) else (bulletinref13_Domain.l0 k x0 x4 x5 (wrap64 (x6 + 1)))) else (some ((⟨#[]⟩ : ByteArray), 130)))) else (none)) else (if x5 = true then (some ((⟨#[]⟩ : ByteArray), 2)) else ((bulletinref06_Fold.f k x0).bind fun t364 => (some (t364, 0))))
def bulletinref13_Domain.f (k : Nat) (a0 : ByteArray) : Option (ByteArray × Int) := (bulletinref13_Split.f k a0 46).bind fun t361 => (bulletinref13_Domain.l0 k a0 t361 (decide ((a0.size : Int) > 253)) 0)
end Go.Proofs.YtlomcmdbbnbciaaDoor.Fn
-- written by xprint.py of this session over the kit's printer; not trusted: Lean checks it
namespace Go.Proofs.YtlomcmdbbnbciaaDoor.Fn
open Go.RowKit Go.Proofs.YtlomcmdbbnbciaaDoorW.PrintWords Go.Proofs.YtlomcmdbbnbciaaDoorW.PrintLast Go.Proofs.YtlomcmdbbnbciaaDoorW.PrintMore
attribute [local go_sem] max2_int min2_int max_two min_two max_three min_three max_four min_four   -- for this text's walks alone
set_option linter.unusedVariables false
set_option linter.unusedSimpArgs false

/-! ### bulletinref12_Text: function 120 -/
def bulletinref12_Text.f (a0 : Int) : Option (Bool) := if a0 = 9 then (some true) else (if a0 ≥ 32 then (if a0 ≤ 126 then (some true) else (some (decide (a0 > 127)))) else (some (decide (a0 > 127))))
end Go.Proofs.YtlomcmdbbnbciaaDoor.Fn
-- written by xprint.py of this session over the kit's printer; not trusted: Lean checks it
namespace Go.Proofs.YtlomcmdbbnbciaaDoor.Fn
open Go.RowKit Go.Proofs.YtlomcmdbbnbciaaDoorW.PrintWords Go.Proofs.YtlomcmdbbnbciaaDoorW.PrintLast Go.Proofs.YtlomcmdbbnbciaaDoorW.PrintMore
attribute [local go_sem] max2_int min2_int max_two min_two max_three min_three max_four min_four   -- for this text's walks alone
set_option linter.unusedVariables false
set_option linter.unusedSimpArgs false

/-! ### bulletinref12_Quote: function 80 -/
mutual
def bulletinref12_Quote.l0 : Nat → ByteArray → ByteArray → Int → Option (ByteArray)
 | 0, _, _, _ => none
 | k + 1, x0, x3, x4 => if x4 < (x0.size : Int) then (if 0 ≤ x4 then (if x4 ≤ (wrap64 (x4 + 1)) then (if (wrap64 (x4 + 1)) ≤ (x0.size : Int) then (if (bt x0 x4) = 34 then (bulletinref12_Quote.j1 k x0 x3 x4 (x0.extract (x4 : Int).toNat ((wrap64 (x4 + 1)) : Int).toNat) true) else (bulletinref12_Quote.j1 k x0 x3 x4 (x0.extract (x4 : Int).toNat ((wrap64 (x4 + 1)) : Int).toNat) ((bt x0 x4) == 92))) else (none)) else (none)) else (none)) else (if 1 + x3.size ≤ 9223372036854775807 then (if ((⟨#[34]⟩ : ByteArray) ++ x3).size + 1 ≤ 9223372036854775807 then (some (((⟨#[34]⟩ : ByteArray) ++ x3) ++ (⟨#[34]⟩ : ByteArray))) else (none)) else (none))
def bulletinref12_Quote.j1 : Nat → ByteArray → ByteArray → Int → ByteArray → Bool → Option (ByteArray)
 | 0, _, _, _, _, _ => none
 | k + 1, x0, x3, x4, x5, x26 => if x26 = true then (if 1 + x5.size ≤ 9223372036854775807 then (if 0 ≤ x4 then (if x4 < (x0.size : Int) then ((bulletinref12_Text.f (bt x0 x4)).bind fun t375 => (if t375 = true then (if x3.size + ((⟨#[92]⟩ : ByteArray) ++ x5).size ≤ 9223372036854775807 then (bulletinref12_Quote.l0 k x0 (x3 ++ ((⟨#[92]⟩ : ByteArray) ++ x5)) (wrap64 (x4 + 1))) else (none)) else (if x3.size + 1 ≤ 9223372036854775807 then (bulletinref12_Quote.l0 k x0 (x3 ++ (⟨#[32]⟩ : ByteArray)) (wrap64 (x4 + 1))) else (none)))) else (none)) else (none)) else (none)) else (if 0 ≤ x4 then (if x4 < (x0.size : Int) then ((bulletinref12_Text.f (bt x0 x4)).bind fun t376 => (if t376 = true then (if x3.size + x5.size ≤ 9223372036854775807 then (bulletinref12_Quote.l0 k x0 (x3 ++ x5) (wrap64 (x4 + 1))) else (none)) else (if x3.size + 1 ≤ 9223372036854775807 then (bulletinref12_Quote.l0 k x0 (x3 ++ (⟨#[32]⟩ : ByteArray)) (wrap64 (x4 + 1))) else (none)))) else (none)) else (none))
end
def bulletinref12_Quote.f (k : Nat) (a0 : ByteArray) : Option (ByteArray) := bulletinref12_Quote.l0 k a0 (⟨#[]⟩ : ByteArray) 0
end Go.Proofs.YtlomcmdbbnbciaaDoor.Fn
-- written by xprint.py of this session over the kit's printer; not trusted: Lean checks it
namespace Go.Proofs.YtlomcmdbbnbciaaDoor.Fn
open Go.RowKit Go.Proofs.YtlomcmdbbnbciaaDoorW.PrintWords Go.Proofs.YtlomcmdbbnbciaaDoorW.PrintLast Go.Proofs.YtlomcmdbbnbciaaDoorW.PrintMore
attribute [local go_sem] max2_int min2_int max_two min_two max_three min_three max_four min_four   -- for this text's walks alone
set_option linter.unusedVariables false
set_option linter.unusedSimpArgs false

/-! ### bulletinref13_Dotted: function 34 -/
def bulletinref13_Dotted.l0 : Nat → List ByteArray → Int → Option (Bool)
 | 0, _, _ => none
 | k + 1, x3, x4 => if x4 < (x3.length : Int) then (if 0 ≤ x4 then ((bulletinref12_IsAtom.f k (rdOf ByteArray.empty x3 x4)).bind fun t374 => (if t374 = true then (bulletinref13_Dotted.l0 k x3 (wrap64 (x4 + 1))) else (some false))) else (none)) else (some true)
def bulletinref13_Dotted.f (k : Nat) (a0 : ByteArray) : Option (Bool) := (bulletinref13_Split.f k a0 46).bind fun t370 => (bulletinref13_Dotted.l0 k t370 0)
end Go.Proofs.YtlomcmdbbnbciaaDoor.Fn
-- written by xprint.py of this session over the kit's printer; not trusted: Lean checks it
namespace Go.Proofs.YtlomcmdbbnbciaaDoor.Fn
open Go.RowKit Go.Proofs.YtlomcmdbbnbciaaDoorW.PrintWords Go.Proofs.YtlomcmdbbnbciaaDoorW.PrintLast Go.Proofs.YtlomcmdbbnbciaaDoorW.PrintMore
attribute [local go_sem] max2_int min2_int max_two min_two max_three min_three max_four min_four   -- for this text's walks alone
set_option linter.unusedVariables false
set_option linter.unusedSimpArgs false

/-! ### bulletinref13_Text: function 30 -/
def bulletinref13_Text.f (k : Nat) (a0_0 : ByteArray) (a0_1 : ByteArray) : Option (ByteArray) := (bulletinref13_Dotted.f k a0_0).bind fun t378 => (if t378 = true then (if a0_0.size + 1 ≤ 9223372036854775807 then (if (a0_0 ++ (⟨#[64]⟩ : ByteArray)).size + a0_1.size ≤ 9223372036854775807 then (some ((a0_0 ++ (⟨#[64]⟩ : ByteArray)) ++ a0_1)) else (none)) else (none)) else ((bulletinref12_Quote.f k a0_0).bind fun t379 => (if t379.size + 1 ≤ 9223372036854775807 then (if (t379 ++ (⟨#[64]⟩ : ByteArray)).size + a0_1.size ≤ 9223372036854775807 then (some ((t379 ++ (⟨#[64]⟩ : ByteArray)) ++ a0_1)) else (none)) else (none))))
end Go.Proofs.YtlomcmdbbnbciaaDoor.Fn
-- written by xprint.py of this session over the kit's printer; not trusted: Lean checks it
namespace Go.Proofs.YtlomcmdbbnbciaaDoor.Fn
open Go.RowKit Go.Proofs.YtlomcmdbbnbciaaDoorW.PrintWords Go.Proofs.YtlomcmdbbnbciaaDoorW.PrintLast Go.Proofs.YtlomcmdbbnbciaaDoorW.PrintMore
attribute [local go_sem] max2_int min2_int max_two min_two max_three min_three max_four min_four   -- for this text's walks alone
set_option linter.unusedVariables false
set_option linter.unusedSimpArgs false

/-! ### bulletinref13_Why: function 81 -/
mutual
def bulletinref13_Why.j0 : Nat → Int → Bool → ByteArray → ByteArray → Option (Int)
 | 0, _, _, _, _ => none
 | k + 1, x4, x18, x384000, x384001 => if x18 = true then (some 130) else (bulletinref13_Why.l0 k x4 0 x384000 x384001)
def bulletinref13_Why.l0 : Nat → Int → Int → ByteArray → ByteArray → Option (Int)
 | 0, _, _, _, _ => none
 | k + 1, x4, x5, x384000, x384001 => if x5 < (x384000.size : Int) then (if 0 ≤ x5 then (if (bt x384000 x5) < 32 then (some 130) else (if (bt x384000 x5) > 126 then (some 130) else (bulletinref13_Why.l0 k x4 (wrap64 (x5 + 1)) x384000 x384001))) else (none)) else (if x4 = 0 then (if (x384000.size : Int) > 64 then (some 2) else ((bulletinref13_Text.f k x384000 x384001).bind fun t386 => (if (t386.size : Int) > 254 then (some 2) else (some 0)))) else (some 2))
end
def bulletinref13_Why.f (k : Nat) (a0_0 : ByteArray) (a0_1 : ByteArray) : Option (Int) := (bulletinref13_Domain.f k a0_1).bind fun bt384 => (if bt384.2 = 130 then (bulletinref13_Why.j0 k bt384.2 true a0_0 a0_1) else (bulletinref13_Why.j0 k bt384.2 (a0_0.toList == ([] : List UInt8)) a0_0 a0_1))
end Go.Proofs.YtlomcmdbbnbciaaDoor.Fn
-- written by xprint.py of this session over the kit's printer; not trusted: Lean checks it
namespace Go.Proofs.YtlomcmdbbnbciaaDoor.Fn
open Go.RowKit Go.Proofs.YtlomcmdbbnbciaaDoorW.PrintWords Go.Proofs.YtlomcmdbbnbciaaDoorW.PrintLast Go.Proofs.YtlomcmdbbnbciaaDoorW.PrintMore
attribute [local go_sem] max2_int min2_int max_two min_two max_three min_three max_four min_four   -- for this text's walks alone
set_option linter.unusedVariables false
set_option linter.unusedSimpArgs false

/-! ### bulletinref13_Right: function 32 -/
end Go.Proofs.YtlomcmdbbnbciaaDoor.Fn
-- written by xprint.py of this session over the kit's printer; not trusted: Lean checks it
namespace Go.Proofs.YtlomcmdbbnbciaaDoor.Fn
open Go.RowKit Go.Proofs.YtlomcmdbbnbciaaDoorW.PrintWords Go.Proofs.YtlomcmdbbnbciaaDoorW.PrintLast Go.Proofs.YtlomcmdbbnbciaaDoorW.PrintMore
attribute [local go_sem] max2_int min2_int max_two min_two max_three min_three max_four min_four   -- for this text's walks alone
set_option linter.unusedVariables false
set_option linter.unusedSimpArgs false

/-! ### bulletinref13_Key: function 31 -/
end Go.Proofs.YtlomcmdbbnbciaaDoor.Fn
set_option linter.unusedVariables false
namespace Go.Proofs.YtlomcmdbbnbciaaDoor.Pl
open Go.RowKit Go.Proofs.YtlomcmdbbnbciaaDoorW.PrintWords Go.Proofs.YtlomcmdbbnbciaaDoor.Fn

/-! Layer 13, the document's, over lists of bytes: it answers as the program does. -/
/-! IsAtom -/
/-! Quote -/
theorem text_34 : text 34 = true := by decide +kernel
end Go.Proofs.YtlomcmdbbnbciaaDoor.Pl
-- written by xprint.py of this session over the kit's printer; not trusted: Lean checks it
namespace Go.Proofs.YtlomcmdbbnbciaaDoor.Fn
open Go.RowKit Go.Proofs.YtlomcmdbbnbciaaDoorW.PrintWords Go.Proofs.YtlomcmdbbnbciaaDoorW.PrintLast Go.Proofs.YtlomcmdbbnbciaaDoorW.PrintMore
attribute [local go_sem] max2_int min2_int max_two min_two max_three min_three max_four min_four   -- for this text's walks alone
set_option linter.unusedVariables false
set_option linter.unusedSimpArgs false

/-! ### bulletinref12_Scan: function 87 -/
mutual
def bulletinref12_Scan.l0 : Nat → ByteArray → List (S148) → ByteArray → Int → Int → Bool → Int → Option ((List (S148)) × Int)
 | 0, _, _, _, _, _, _, _ => none
 | k + 1, x0, x4, x5, x6, x7, x8, x9 => if x9 < (x0.size : Int) then (if 0 ≤ x9 then (if x8 = true then ((bulletinref12_Text.f (bt x0 x9)).bind fun t415 => (if t415 = true then (if x6 = 2 then (if x9 ≤ (wrap64 (x9 + 1)) then (if (wrap64 (x9 + 1)) ≤ (x0.size : Int) then (if x5.size + (x0.extract (x9 : Int).toNat ((wrap64 (x9 + 1)) : Int).toNat).size ≤ 9223372036854775807 then (bulletinref12_Scan.l0 k x0 x4 (x5 ++ (x0.extract (x9 : Int).toNat ((wrap64 (x9 + 1)) : Int).toNat)) x6 x7 false (wrap64 (x9 + 1))) else (none)) else (none)) else (none)) else (bulletinref12_Scan.l0 k x0 x4 x5 x6 x7 false (wrap64 (x9 + 1)))) else (some (([] : List (S148)), 3)))) else (if x6 = 1 then ((bulletinref12_atomic.f k (bt x0 x9)).bind fun t416 => (bulletinref12_Scan.j1 k x0 x4 x5 x6 x7 x8 x9 (bt x0 x9) (!t416))) else (bulletinref12_Scan.j1 k x0 x4 x5 x6 x7 x8 x9 (bt x0 x9) false))) else (none)) else (if x6 ≥ 2 then (some (([] : List (S148)), 9)) else (if x6 = 1 then (if x4.length < 5864062014805 then (some ((x4 ++ [(⟨1, x5⟩ : S148)]), 0)) else (none)) else (some (x4, 0))))
def bulletinref12_Scan.j1 : Nat → ByteArray → List (S148) → ByteArray → Int → Int → Bool → Int → Int → Bool → Option ((List (S148)) × Int)
 | 0, _, _, _, _, _, _, _, _, _ => none
 | k + 1, x0, x4, x5, x6, x7, x8, x9, x10, x39 => if x39 = true then (if x4.length < 5864062014805 then (bulletinref12_Scan.j2 k x0 (x4 ++ [(⟨1, x5⟩ : S148)]) (⟨#[]⟩ : ByteArray) 0 x7 x8 x9 x10) else (none)) else (bulletinref12_Scan.j2 k x0 x4 x5 x6 x7 x8 x9 x10)
def bulletinref12_Scan.j2 : Nat → ByteArray → List (S148) → ByteArray → Int → Int → Bool → Int → Int → Option ((List (S148)) × Int)
 | 0, _, _, _, _, _, _, _, _ => none
 | k + 1, x0, x4, x5, x6, x7, x8, x9, x10 => if x10 = 13 then (if (wrap64 (x9 + 2)) < (x0.size : Int) then (if 0 ≤ (wrap64 (x9 + 1)) then (if (wrap64 (x9 + 1)) < (x0.size : Int) then (if (bt x0 (wrap64 (x9 + 1))) = 10 then (if 0 ≤ (wrap64 (x9 + 2)) then (if (bt x0 (wrap64 (x9 + 2))) = 32 then (bulletinref12_Scan.j3 k x0 x4 x5 x6 x7 x8 x9 x10 true) else (bulletinref12_Scan.j3 k x0 x4 x5 x6 x7 x8 x9 x10 ((bt x0 (wrap64 (x9 + 2))) == 9))) else (none)) else (bulletinref12_Scan.j3 k x0 x4 x5 x6 x7 x8 x9 x10 false)) else (none)) else (none)) else (bulletinref12_Scan.j3 k x0 x4 x5 x6 x7 x8 x9 x10 false)) else (bulletinref12_Scan.j3 k x0 x4 x5 x6 x7 x8 x9 x10 false)
def bulletinref12_Scan.j3 : Nat → ByteArray → List (S148) → ByteArray → Int → Int → Bool → Int → Int → Bool → Option ((List (S148)) × Int)
 | 0, _, _, _, _, _, _, _, _, _ => none
 | k + 1, x0, x4, x5, x6, x7, x8, x9, x10, x74 => if x74 = true then (bulletinref12_Scan.l0 k x0 x4 x5 x6 x7 x8 (wrap64 ((wrap64 (x9 + 1)) + 1))) else (if x6 = 2 then (bulletinref12_Scan.j4 k x0 x4 x5 x6 x7 x8 x9 x10 true) else (bulletinref12_Scan.j4 k x0 x4 x5 x6 x7 x8 x9 x10 (x6 == 3)))
def bulletinref12_Scan.j4 : Nat → ByteArray → List (S148) → ByteArray → Int → Int → Bool → Int → Int → Bool → Option ((List (S148)) × Int)
 | 0, _, _, _, _, _, _, _, _, _ => none
 | k + 1, x0, x4, x5, x6, x7, x8, x9, x10, x82 => if x82 = true then (if x10 = 92 then (bulletinref12_Scan.l0 k x0 x4 x5 x6 x7 true (wrap64 (x9 + 1))) else ((bulletinref12_Text.f x10).bind fun t420 => (if t420 = true then (bulletinref12_Scan.j5 k x0 x4 x5 x6 x7 x8 x9 x10) else (some (([] : List (S148)), 3))))) else (bulletinref12_Scan.j5 k x0 x4 x5 x6 x7 x8 x9 x10)
def bulletinref12_Scan.j5 : Nat → ByteArray → List (S148) → ByteArray → Int → Int → Bool → Int → Int → Option ((List (S148)) × Int)
 | 0, _, _, _, _, _, _, _, _ => none
 | k + 1, x0, x4, x5, x6, x7, x8, x9, x10 => if x6 = 2 then (if x10 = 34 then (if x4.length < 5864062014805 then (bulletinref12_Scan.l0 k x0 (x4 ++ [(⟨2, x5⟩ : S148)]) (⟨#[]⟩ : ByteArray) 0 x7 x8 (wrap64 (x9 + 1))) else (none)) else (if 0 ≤ x9 then (if x9 ≤ (wrap64 (x9 + 1)) then (if (wrap64 (x9 + 1)) ≤ (x0.size : Int) then (if x5.size + (x0.extract (x9 : Int).toNat ((wrap64 (x9 + 1)) : Int).toNat).size ≤ 9223372036854775807 then (bulletinref12_Scan.l0 k x0 x4 (x5 ++ (x0.extract (x9 : Int).toNat ((wrap64 (x9 + 1)) : Int).toNat)) x6 x7 x8 (wrap64 (x9 + 1))) else (none)) else (none)) else (none)) else (none))) else (if x6 = 3 then (if x10 = 40 then (bulletinref12_Scan.j6 k x0 x4 x5 x6 (wrap64 (x7 + 1)) x8 x9 x10) else (bulletinref12_Scan.j6 k x0 x4 x5 x6 x7 x8 x9 x10)) else ((bulletinref12_atomic.f k x10).bind fun t424 => (if t424 = true then (if 0 ≤ x9 then (if x9 ≤ (wrap64 (x9 + 1)) then (if (wrap64 (x9 + 1)) ≤ (x0.size : Int) then (if x5.size + (x0.extract (x9 : Int).toNat ((wrap64 (x9 + 1)) : Int).toNat).size ≤ 9223372036854775807 then (bulletinref12_Scan.l0 k x0 x4 (x5 ++ (x0.extract (x9 : Int).toNat ((wrap64 (x9 + 1)) : Int).toNat)) 1 x7 x8 (wrap64 (x9 + 1))) else (none)) else (none)) else (none)) else (none)) else (if x10 = 34 then (bulletinref12_Scan.l0 k x0 x4 x5 2 x7 x8 (wrap64 (x9 + 1))) else (if x10 = 40 then (bulletinref12_Scan.l0 k x0 x4 x5 3 1 x8 (wrap64 (x9 + 1))) else ((bulletinref12_among.f k x10 (⟨#[60, 62, 58, 59, 64, 44, 46]⟩ : ByteArray)).bind fun t425 => (if t425 = true then (if 0 ≤ x9 then (if x9 ≤ (wrap64 (x9 + 1)) then (if (wrap64 (x9 + 1)) ≤ (x0.size : Int) then (if x4.length < 5864062014805 then (bulletinref12_Scan.l0 k x0 (x4 ++ [(⟨3, x0.extract (x9 : Int).toNat ((wrap64 (x9 + 1)) : Int).toNat⟩ : S148)]) x5 x6 x7 x8 (wrap64 (x9 + 1))) else (none)) else (none)) else (none)) else (none)) else (if x10 = 32 then (bulletinref12_Scan.l0 k x0 x4 x5 x6 x7 x8 (wrap64 (x9 + 1))) else (if x10 = 9 then (bulletinref12_Scan.l0 k x0 x4 x5 x6 x7 x8 (wrap64 (x9 + 1))) else (some (([] : List (S148)), 3)))))))))))
def bulletinref12_Scan.j6 : Nat → ByteArray → List (S148) → ByteArray → Int → Int → Bool → Int → Int → Option ((List (S148)) × Int)
 | 0, _, _, _, _, _, _, _, _ => none
 | k + 1, x0, x4, x5, x6, x7, x8, x9, x10 => if x10 = 41 then (bulletinref12_Scan.j7 k x0 x4 x5 x6 (wrap64 (x7 - 1)) x8 x9) else (bulletinref12_Scan.j7 k x0 x4 x5 x6 x7 x8 x9)
def bulletinref12_Scan.j7 : Nat → ByteArray → List (S148) → ByteArray → Int → Int → Bool → Int → Option ((List (S148)) × Int)
 | 0, _, _, _, _, _, _, _ => none
 | k + 1, x0, x4, x5, x6, x7, x8, x9 => if x7 > 16 then (some (([] : List (S148)), 1)) else (if x7 = 0 then (bulletinref12_Scan.l0 k x0 x4 x5 0 x7 x8 (wrap64 (x9 + 1))) else (bulletinref12_Scan.l0 k x0 x4 x5 x6 x7 x8 (wrap64 (x9 + 1))))
end
end Go.Proofs.YtlomcmdbbnbciaaDoor.Fn
set_option linter.unusedVariables false
namespace Go.Proofs.YtlomcmdbbnbciaaDoor.Pl
open Go.RowKit Go.Proofs.YtlomcmdbbnbciaaDoorW.PrintWords Go.Proofs.YtlomcmdbbnbciaaDoor.Fn

/-! Layer 12: tokens, by one machine over lists of bytes; the document's Scan is this machine. -/
inductive Sc where
  | out
  | atom (w : Bytes)
  | quot (w : Bytes) (b : Bool)
  | comm (d : Nat) (b : Bool)
abbrev Tok := Int × Bytes
def whiteB (c : UInt8) : Bool := c == 32 || c == 9
def foldAt : Bytes → Bool
  | a :: b :: c :: _ => a == 13 && b == 10 && whiteB c
  | _ => false
def signB (c : UInt8) : Bool := (⟨#[60, 62, 58, 59, 64, 44, 46]⟩ : ByteArray).data.toList.contains c
def stepOut (acc : List Tok) (c : UInt8) (l : Bytes) : (List Tok × Sc × Bytes) ⊕ Int :=
  if foldAt (c :: l) = true then .inl (acc, .out, l.tail)
  else if atomic c = true then .inl (acc, .atom [c], l)
  else if c = 34 then .inl (acc, .quot [] false, l)
  else if c = 40 then .inl (acc, .comm 1 false, l)
  else if signB c = true then .inl (acc ++ [(3, [c])], .out, l)
  else if whiteB c = true then .inl (acc, .out, l)
  else .inr 3
def commAfter (acc : List Tok) (d : Nat) (l : Bytes) : (List Tok × Sc × Bytes) ⊕ Int :=
  if 16 < d then .inr 1 else if d = 0 then .inl (acc, .out, l) else .inl (acc, .comm d false, l)
def step (acc : List Tok) (st : Sc) (c : UInt8) (l : Bytes) : (List Tok × Sc × Bytes) ⊕ Int :=
  match st with
  | .out => stepOut acc c l
  | .atom w => if atomic c = true then .inl (acc, .atom (w ++ [c]), l) else stepOut (acc ++ [(1, w)]) c l
  | .quot w true => if text c = true then .inl (acc, .quot (w ++ [c]) false, l) else .inr 3
  | .comm d true => if text c = true then .inl (acc, .comm d false, l) else .inr 3
  | .quot w false =>
    if foldAt (c :: l) = true then .inl (acc, .quot w false, l.tail)
    else if c = 92 then .inl (acc, .quot w true, l)
    else if text c = true then (if c = 34 then .inl (acc ++ [(2, w)], .out, l) else .inl (acc, .quot (w ++ [c]) false, l))
    else .inr 3
  | .comm d false =>
    if foldAt (c :: l) = true then .inl (acc, .comm d false, l.tail)
    else if c = 92 then .inl (acc, .comm d true, l)
    else if text c = true then commAfter acc (if c = 40 then d + 1 else if c = 41 then d - 1 else d) l
    else .inr 3
def endOf (acc : List Tok) : Sc → List Tok × Int
  | .out => (acc, 0)
  | .atom w => (acc ++ [(1, w)], 0)
  | _ => ([], 9)
def scan : Nat → List Tok → Sc → Bytes → List Tok × Int
  | _, acc, st, [] => endOf acc st
  | 0, _, _, _ :: _ => ([], 7)
  | k + 1, acc, st, c :: l => match step acc st c l with
    | .inl (acc', st', l') => scan k acc' st' l'
    | .inr e => ([], e)
theorem stepOut_le {acc : List Tok} {c : UInt8} {l : Bytes} {a : List Tok} {s : Sc} {r : Bytes} (h : stepOut acc c l = .inl (a, s, r)) : r.length ≤ l.length := by
  unfold stepOut at h
  repeat' split at h
  all_goals (first | (cases h; done) | (simp only [Sum.inl.injEq, Prod.mk.injEq] at h; obtain ⟨_, _, rfl⟩ := h; simp))
theorem step_le {acc : List Tok} {st : Sc} {c : UInt8} {l : Bytes} {a : List Tok} {s : Sc} {r : Bytes} (h : step acc st c l = .inl (a, s, r)) : r.length ≤ l.length := by
  unfold step commAfter at h
  repeat' split at h
  all_goals (first | exact stepOut_le h | (cases h; done) | (simp only [Sum.inl.injEq, Prod.mk.injEq] at h; obtain ⟨_, _, rfl⟩ := h; simp))
theorem scan_more : ∀ (k : Nat) (acc : List Tok) (st : Sc) (l : Bytes), l.length ≤ k → scan k acc st l = scan (k + 1) acc st l
  | k, acc, st, [], _ => by cases k <;> rfl
  | 0, acc, st, c :: l, h => by simp at h
  | k + 1, acc, st, c :: l, h => by
    rw [scan, scan]
    cases hs : step acc st c l with
    | inr e => rfl
    | inl x =>
      obtain ⟨a, s, r⟩ := x
      have := step_le hs
      simp only [List.length_cons] at h
      exact scan_more k a s r (by omega)
def scanL (acc : List Tok) (st : Sc) (l : Bytes) : List Tok × Int := scan l.length acc st l
theorem scan_enough (k : Nat) (acc : List Tok) (st : Sc) (l : Bytes) (h : l.length ≤ k) : scan k acc st l = scanL acc st l := by
  unfold scanL
  obtain ⟨d, rfl⟩ : ∃ d, k = l.length + d := ⟨k - l.length, by omega⟩
  clear h
  induction d with
  | zero => rfl
  | succ d ih => rw [← Nat.add_assoc, ← scan_more _ _ _ _ (by omega)]; exact ih
theorem scanL_nil (acc : List Tok) (st : Sc) : scanL acc st [] = endOf acc st := rfl
theorem scanL_cons (acc : List Tok) (st : Sc) (c : UInt8) (l : Bytes) : scanL acc st (c :: l) = match step acc st c l with
    | .inl (acc', st', l') => scanL acc' st' l'
    | .inr e => ([], e) := by
  rw [scanL, List.length_cons, scan]
  cases hs : step acc st c l with
  | inr e => rfl
  | inl x =>
    obtain ⟨a, s, r⟩ := x
    exact scan_enough _ _ _ _ (step_le hs)

/-! The document's Scan -/
def tok148 (t : Tok) : S148 := ⟨t.1, str t.2⟩
def wOf : Sc → Bytes
  | .atom w => w
  | .quot w _ => w
  | _ => []
def whereOf : Sc → Int
  | .out => 0
  | .atom _ => 1
  | .quot _ _ => 2
  | .comm _ _ => 3
def behindOf : Sc → Bool
  | .quot _ b => b
  | .comm _ b => b
  | _ => false
def deepOk (d : Int) : Sc → Prop
  | .comm n _ => d = n ∧ 1 ≤ n ∧ n ≤ 16
  | _ => 0 ≤ d ∧ d ≤ 16
theorem byte_ofNat (c : UInt8) (n : Nat) (h : n < 256) : ((c.toNat : Int) = ((n : Nat) : Int)) ↔ c = UInt8.ofNat n := by rw [byte_eq c n h]
def res148 (acc : List Tok) (st : Sc) (r : Bytes) : List S148 × Int := ((scanL acc st r).1.map tok148, (scanL acc st r).2)
def Behind (s : ByteArray) (k m : Nat) : Prop := ∀ (acc : List Tok) (st : Sc) (d : Int) (r : Bytes) (j : Nat), r.length ≤ m → (bs s).drop j = r → j ≤ (bs s).length → deepOk d st → acc.length ≤ 2 * j → (wOf st).length ≤ j →
  bulletinref12_Scan.l0 k s (acc.map tok148) (str (wOf st)) (whereOf st) d (behindOf st) (j : Int) = some (res148 acc st r)
theorem tail_drop {s : ByteArray} {i : Nat} {c : UInt8} {l : Bytes} (hd : (bs s).drop i = c :: l) (hf : foldAt (c :: l) = true) : (bs s).drop (i + 2) = l.tail ∧ i + 2 ≤ (bs s).length ∧ l.tail.length ≤ l.length := by
  obtain ⟨h1, h2, h3, h4⟩ := drop_cons hd
  cases l with
  | nil => cases hf
  | cons b l =>
    obtain ⟨g1, g2, g3, g4⟩ := drop_cons h3
    exact ⟨g3, by omega, by simp⟩
end Go.Proofs.YtlomcmdbbnbciaaDoor.Pl
