/- A part of the proof of this sentence: What is shown of the boxes that any bytes were read as is read as the same boxes, for every input; the tables of unicode/utf8 are as the program's text lays them. -/
import Derived.Test.YtbjbpgmjijeppaaDoorCMbxBack3
namespace Go.Proofs.YtbjbpgmjijeppaaDoor.Fn
open Go.RowKit Go.Proofs.YtbjbpgmjijeppaaDoorW.PrintWords Go.Proofs.YtbjbpgmjijeppaaDoorW.PrintLast Go.Proofs.YtbjbpgmjijeppaaDoorW.PrintMore
attribute [local go_sem] max2_int min2_int max_two min_two max_three min_three max_four min_four
set_option linter.unusedVariables false
set_option linter.unusedSimpArgs false

attribute [local go_sem high] eqA31
/-! ### bulletinlaw14_MbxBack: function 7 -/
mutual
def bulletinlaw14_MbxBack.j0 : Nat → List (S31) → Bool → Option (Bool)
 | 0, _, _ => none
 | k + 1, x3, x26 => if x26 = true then (some ((x3.length : Int) == 0)) else ((mbx_ShowAll.f k x3).bind fun t426 => ((mbx_Read.f t426).bind fun bt427 => (if bt427.2 = 0 then (bulletinlaw14_MbxBack.j1 k x3 bt427.1 ((bt427.1.length : Int) != (x3.length : Int))) else (bulletinlaw14_MbxBack.j1 k x3 bt427.1 true))))
def bulletinlaw14_MbxBack.j1 : Nat → List (S31) → List (S31) → Bool → Option (Bool)
 | 0, _, _, _ => none
 | k + 1, x3, x5, x44 => if x44 = true then (some false) else (bulletinlaw14_MbxBack.l0 k x3 x5 (x3.length : Int) 0)
def bulletinlaw14_MbxBack.l0 : Nat → List (S31) → List (S31) → Int → Int → Option (Bool)
 | 0, _, _, _, _ => none
 | k + 1, x3, x5, x46, x47 => if x47 < x46 then (if 0 ≤ x47 then (if x47 < (x3.length : Int) then ((mbx_Show.f k ((rd_T31 x3 x47).f0) ((rd_T31 x3 x47).f1.f0) ((rd_T31 x3 x47).f1.f1)).bind fun t432 => ((mbx_One.f t432).bind fun bt433 => (if x47 < (x5.length : Int) then (if (!((((rd_T31 x3 x47).f0).toList) == (((rd_T31 x5 x47).f0).toList)) || ((!((((rd_T31 x3 x47).f1.f0).toList) == (((rd_T31 x5 x47).f1.f0).toList)) || (!((((rd_T31 x3 x47).f1.f1).toList) == (((rd_T31 x5 x47).f1.f1).toList)))))) = true then (some false) else (if bt433.2.2.2 = 0 then (if (!(bt433.1.toList == (((rd_T31 x3 x47).f0).toList)) || ((!(bt433.2.1.toList == (((rd_T31 x3 x47).f1.f0).toList)) || (!(bt433.2.2.1.toList == (((rd_T31 x3 x47).f1.f1).toList)))))) = true then (some false) else ((addr_Addr_Right.f k ((rd_T31 x3 x47).f1.f0) ((rd_T31 x3 x47).f1.f1)).bind fun t442 => (if t442 = true then (bulletinlaw14_MbxBack.l0 k x3 x5 x46 (wrap64 (x47 + 1))) else (some false)))) else (some false))) else (none)))) else (none)) else (none)) else (some true)
end
def bulletinlaw14_MbxBack.f (k : Nat) (a0 : ByteArray) : Option (Bool) := (bulletinlaw14_works.f k).bind fun t421 => (if t421 = true then (if (a0.size : Int) > 2000 then (some true) else ((mbx_Read.f a0).bind fun bt422 => (if bt422.2 = 0 then (bulletinlaw14_MbxBack.j0 k bt422.1 ((bt422.1.length : Int) == 0)) else (bulletinlaw14_MbxBack.j0 k bt422.1 true)))) else (some false))
def bulletinlaw14_MbxBack.T15 : Bool × List (List Nat × List Nat) := (true, [([], []), ([], []), ([0, 1], [0, 1]), ([2], [2]), ([], []), ([], []), ([4, 5], [4, 5]), ([6], [6]), ([3, 7], [3, 7]), ([8], [8]), ([9], [9]), ([10, 9], [9, 10]), ([9, 11], [9, 11]), ([12, 9], [12]), ([13], [13]), ([13], [13]), ([13], [13]), ([15, 16, 13], [13, 15, 16]), ([17, 13], [13, 17]), ([14, 18, 13], [13, 14, 18]), ([13, 19], [13, 19]), ([20, 13], [20]), ([21], [21]), ([21], [21]), ([22, 23, 21], [21, 22, 23]), ([24, 21], [21, 24]), ([25, 21], [21, 25]), ([26, 21, 21], [21, 26]), ([27, 21], [21, 27]), ([21, 28], [21, 28])])
def bulletinlaw14_MbxBack.B15 : List Nat := [0, 0, 3, 7, 0, 0, 48, 112, 255, 511, 1023, 2047, 4095, 8191, 16383, 16383, 16383, 114687, 245759, 524287, 1048575, 2097151, 4194303, 4194303, 16777215, 33554431, 67108863, 134217727, 268435455, 536870911]
theorem bulletinlaw14_MbxBack.tab15 : rtab .any (opsOf Tryd.f7 15) = bulletinlaw14_MbxBack.T15 := by kernel_rfl
theorem bulletinlaw14_MbxBack.bits15 : waitsOk bulletinlaw14_MbxBack.T15.2 bulletinlaw14_MbxBack.B15 = true := by kernel_rfl
set_option maxHeartbeats 8000000 in
set_option maxRecDepth 100000 in
theorem bulletinlaw14_MbxBack.calls (k : Nat) (a0 : ByteArray) (r : Bool) (w : World) (hG : Glob w) (h : bulletinlaw14_MbxBack.f k a0 = some r) :
  Calls Tryd.prog 7 #[.string a0] w fun e w' => e = .returned (.bool r) ∧ Below w.heap.size w w' := by
 have hu31 := Tryd.underlying31
 have hu29 := Tryd.underlying29
 have HB := Aside0.mk (Below.refl w.heap.size w)
 have H : ((bulletinlaw14_works.f k).bind fun t421 => (if t421 = true then (if (a0.size : Int) > 2000 then (some true) else ((mbx_Read.f a0).bind fun bt422 => (if bt422.2 = 0 then (bulletinlaw14_MbxBack.j0 k bt422.1 ((bt422.1.length : Int) == 0)) else (bulletinlaw14_MbxBack.j0 k bt422.1 true)))) else (some false))) = some r := h
 clear h
 replace H := Option.bind_eq_some_iff.mp H
 obtain ⟨t421, A20, H⟩ := H
 replace H : (if t421 = true then (if (a0.size : Int) > 2000 then (some true) else ((mbx_Read.f a0).bind fun bt422 => (if bt422.2 = 0 then (bulletinlaw14_MbxBack.j0 k bt422.1 ((bt422.1.length : Int) == 0)) else (bulletinlaw14_MbxBack.j0 k bt422.1 true)))) else (some false)) = some r := H
 have A2 := Aside0.mk A20
 clear A20
 by_cases c3 : t421 = true
 ·subst c3
  have H1 : (if (a0.size : Int) > 2000 then (some true) else ((mbx_Read.f a0).bind fun bt422 => (if bt422.2 = 0 then (bulletinlaw14_MbxBack.j0 k bt422.1 ((bt422.1.length : Int) == 0)) else (bulletinlaw14_MbxBack.j0 k bt422.1 true)))) = some r := by rw [if_pos rfl] at H; exact H
  clear H
  have H := H1
  clear H1
  by_cases c4 : (a0.size : Int) > 2000
  ·rw [if_pos c4] at H
   have c4b0 : decide (2000 < (a0.size : Int)) = true := decide_eq_true c4
   have c4b1 : decide (2000 < a0.size) = true := decide_eq_true (by omega)
   clear c4
   obtain rfl := Option.some.inj H
   go_enter Tryd.func7, Tryd.ntmps7
   go_wp2_with (first | ((with_reducible refine gate_callee (f := 9) rfl ?_); refine goesL_ (some 10) rfl rfl Tryd.func9 (by kernel_rfl) rfl #[] rfl am ?_; (with_reducible refine (bulletinlaw14_works.calls (hG := by first | exact hG | exact Glob.below hG (by first | exact HB.out | (repeat (first | (with_reducible first | exact HB.out | apply below_alloc | apply pw_below_drewN | apply below_drew1 | refine below_set ?_ GE437.out) | exact HB.out))) | exact Glob.drawn hG (by repeat (first | exact Drawn0.refl _ | apply Drawn0.step))) k  true _ A2.out).mono ?_); rintro e w5 ⟨rfl, hb⟩; refine ⟨_, rfl, ?_⟩; have n0_ := Aside0.mk (below_step bw hb); clear HB; have HB := n0_; clear n0_; (try clear hb); (try clear hb2); (try clear hk); (try clear hi)))
   go_ret
   exact ⟨by first | rfl | (simp [errW_none, errW_some] <;> rfl) | (simp [*, errW_none, errW_some] <;> rfl), bw⟩
  ·rw [if_neg c4] at H
   have c4b0 : decide (2000 < (a0.size : Int)) = false := decide_eq_false c4
   have c4b1 : decide (2000 < a0.size) = false := decide_eq_false (by omega)
   clear c4
   replace H := Option.bind_eq_some_iff.mp H
   obtain ⟨⟨t422, t423⟩, A60, H⟩ := H
   replace H : (if t423 = 0 then (bulletinlaw14_MbxBack.j0 k t422 ((t422.length : Int) == 0)) else (bulletinlaw14_MbxBack.j0 k t422 true)) = some r := H
   have A6 := Aside0.mk A60
   clear A60
   have HC7 := Aside0.mk H
   clear H
   go_enter Tryd.func7, Tryd.ntmps7
   go_upto_region 6 with (first | ((with_reducible refine gate_callee (f := 9) rfl ?_); refine goesL_ (some 10) rfl rfl Tryd.func9 (by kernel_rfl) rfl #[] rfl am ?_; (with_reducible refine (bulletinlaw14_works.calls (hG := by first | exact hG | exact Glob.below hG (by first | exact HB.out | (repeat (first | (with_reducible first | exact HB.out | apply below_alloc | apply pw_below_drewN | apply below_drew1 | refine below_set ?_ GE437.out) | exact HB.out))) | exact Glob.drawn hG (by repeat (first | exact Drawn0.refl _ | apply Drawn0.step))) k  true _ A2.out).mono ?_); rintro e w8 ⟨rfl, hb⟩; refine ⟨_, rfl, ?_⟩; have n0_ := Aside0.mk (below_step bw hb); clear HB; have HB := n0_; clear n0_; (try clear hb); (try clear hb2); (try clear hk); (try clear hi)) | ((with_reducible refine gate_callee (f := 17) rfl ?_); refine goesL_ (some 17) rfl rfl Tryd.func17 (by kernel_rfl) rfl #[.string a0] rfl am ?_; (with_reducible refine (mbx_Read.calls (hG := by first | exact hG | exact Glob.below hG (by first | exact HB.out | (repeat (first | (with_reducible first | exact HB.out | apply below_alloc | apply pw_below_drewN | apply below_drew1 | refine below_set ?_ GE437.out) | exact HB.out))) | exact Glob.drawn hG (by repeat (first | exact Drawn0.refl _ | apply Drawn0.step))) a0 t422 t423 _ A6.out).mono ?_); rintro e w9 ⟨v424, rfl, ho0, hb⟩; refine ⟨_, rfl, ?_⟩; have n0_ := Aside0.mk (Kd.R_lower ho0 (below_size bw)); have n1_ := Aside0.mk (below_step bw hb); clear HB; have HO425 := n0_; have HB := n1_; clear n0_ n1_; (try clear hb); (try clear hb2); (try clear hk); (try clear hi); (try clear ho0)))
   (try simp only [Act.put, List.setIfInBounds_toArray, List.set_cons_zero, List.set_cons_succ])
   go_cut [26] (fun v26 wc => ∃ (kq : Nat) (x26_6 : Bool), v26 = .bool x26_6 ∧ Aside0 (bulletinlaw14_MbxBack.j0 kq t422 x26_6 = some r) ∧ Aside0 (kq ≤ k) ∧ Aside0 (Kd.R k31 31 wc w.heap.size (fun _ => True) v424 t422) ∧ Aside0 (Below w.heap.size w wc))
   case first =>
    have H := HC7.out
    clear HC7
    by_cases c10 : t423 = 0
    ·rw [if_pos c10] at H
     have c10b0 : (t423 == 0) = true := beq_iff_eq.mpr c10
     have c10b1 : (t423 != 0) = false := bne_eq_false_iff_eq.mpr c10
     clear c10
     (first | rw [c10b0] | (simp only [i64_w, i32_w]; rw [c10b0]) | skip)
     have H' := Aside0.mk H
     clear H
     obtain ⟨Ao11, co11, eo11⟩ := Kd.R_slice HO425.out
     subst eo11
     as_aux_lemma =>
      go_wp2
      go_meet
      case rel => exact ⟨_, (((t422.length : Int) == 0)), cl, H', ⟨by first | omega | exact Nat.le_refl _⟩, ⟨by (with_reducible repeat (first | apply Kd.R_alloc | apply Kd.R_drewN | apply Kd.R_drew)); exact HO425.out⟩, ⟨bw⟩⟩
    ·rw [if_neg c10] at H
     have c10b0 : (t423 == 0) = false := beq_eq_false_iff_ne.mpr c10
     have c10b1 : (t423 != 0) = true := bne_iff_ne.mpr c10
     (first | rw [c10b0] | (simp only [i64_w, i32_w]; rw [c10b0]) | skip)
     have H' := Aside0.mk H
     clear H
     as_aux_lemma =>
      go_wp2
      go_meet
      case rel => exact ⟨_, (true), cl, H', ⟨by first | omega | exact Nat.le_refl _⟩, ⟨by (with_reducible repeat (first | apply Kd.R_alloc | apply Kd.R_drewN | apply Kd.R_drew)); exact HO425.out⟩, ⟨bw⟩⟩
   case rest =>
    clear HC7
    try clear c1
    try clear p2
    try clear c3
    try clear c4
    try clear c4b0
    try clear c4b1
    try clear c7
    try clear c9
    try clear c10
    try clear c10b0
    try clear c10b1
    obtain ⟨kq, x26_6, rfl, HA, HJ6, HO_3, HB⟩ := hcut
    cases kq with
    | zero => exact absurd HA.out (by simp [bulletinlaw14_MbxBack.j0])
    | succ kj6 =>
     have H := HA.out
     clear HA
     simp only [bulletinlaw14_MbxBack.j0] at H
     by_cases c12 : x26_6 = true
     ·subst c12
      have H1 : (some ((t422.length : Int) == 0)) = some r := by rw [if_pos rfl] at H; exact H
      clear H
      have H := H1
      clear H1
      obtain rfl := Option.some.inj H
      obtain ⟨Ao13, co13, eo13⟩ := Kd.R_slice HO_3.out
      subst eo13
      as_aux_lemma =>
       go_wp2
       go_ret
       exact ⟨by first | rfl | (simp [errW_none, errW_some] <;> rfl) | (simp [*, errW_none, errW_some] <;> rfl), bw⟩
     ·replace c12 := Bool.eq_false_iff.mpr c12
      subst c12
      have H1 : ((mbx_ShowAll.f kj6 t422).bind fun t426 => ((mbx_Read.f t426).bind fun bt427 => (if bt427.2 = 0 then (bulletinlaw14_MbxBack.j1 kj6 t422 bt427.1 ((bt427.1.length : Int) != (t422.length : Int))) else (bulletinlaw14_MbxBack.j1 kj6 t422 bt427.1 true)))) = some r := by rw [if_neg (show ¬ (false = true) by decide)] at H; exact H
      clear H
      have H := H1
      clear H1
      replace H := Option.bind_eq_some_iff.mp H
      obtain ⟨t426, A140, H⟩ := H
      replace H : ((mbx_Read.f t426).bind fun bt427 => (if bt427.2 = 0 then (bulletinlaw14_MbxBack.j1 kj6 t422 bt427.1 ((bt427.1.length : Int) != (t422.length : Int))) else (bulletinlaw14_MbxBack.j1 kj6 t422 bt427.1 true))) = some r := H
      have A14 := Aside0.mk A140
      clear A140
      replace H := Option.bind_eq_some_iff.mp H
      obtain ⟨⟨t427, t428⟩, A150, H⟩ := H
      replace H : (if t428 = 0 then (bulletinlaw14_MbxBack.j1 kj6 t422 t427 ((t427.length : Int) != (t422.length : Int))) else (bulletinlaw14_MbxBack.j1 kj6 t422 t427 true)) = some r := H
      have A15 := Aside0.mk A150
      clear A150
      have HC16 := Aside0.mk H
      clear H
      obtain ⟨Ao17, co17, eo17⟩ := Kd.R_slice HO_3.out
      subst eo17
      go_upto_region 9 with (first | ((with_reducible refine gate_callee (f := 13) rfl ?_); refine goesL_ (some 32) rfl rfl Tryd.func13 (by kernel_rfl) rfl #[.slice Ao17 t422.length co17] rfl am ?_; (with_reducible refine (mbx_ShowAll.calls kj6 _ _ t422 t426 _ ?side1 ?side2 A14.out).mono ?_); (case side1 => repeat (first | exact (Kd.R_reads' HO_3.out).2.2 | (with_reducible refine Kd.C_alloc ?_ _) | (with_reducible refine Kd.C_drewN ?_ _) | (with_reducible refine Kd.C_drew ?_))); (case side2 => exact (Kd.R_reads' HO_3.out).2.1); rintro e w18 ⟨rfl, hb⟩; refine ⟨_, rfl, ?_⟩; have n0_ := Aside0.mk (Kd.R_below (by (with_reducible repeat (first | apply Kd.R_alloc | apply Kd.R_drewN | apply Kd.R_drew)); exact HO_3.out) hb); have n1_ := Aside0.mk (below_step bw hb); clear HO_3; clear HB; have HO_3 := n0_; have HB := n1_; clear n0_ n1_; (try clear hb); (try clear hb2); (try clear hk); (try clear hi)) | ((with_reducible refine gate_callee (f := 17) rfl ?_); refine goesL_ (some 33) rfl rfl Tryd.func17 (by kernel_rfl) rfl #[.string t426] rfl am ?_; (with_reducible refine (mbx_Read.calls (hG := by first | exact hG | exact Glob.below hG (by first | exact HB.out | (repeat (first | (with_reducible first | exact HB.out | apply below_alloc | apply pw_below_drewN | apply below_drew1 | refine below_set ?_ GE437.out) | exact HB.out))) | exact Glob.drawn hG (by repeat (first | exact Drawn0.refl _ | apply Drawn0.step))) t426 t427 t428 _ A15.out).mono ?_); rintro e w19 ⟨v429, rfl, ho0, hb⟩; refine ⟨_, rfl, ?_⟩; have n0_ := Aside0.mk (Kd.R_elder' (by (with_reducible repeat (first | apply Kd.R_alloc | apply Kd.R_drewN | apply Kd.R_drew)); exact HO_3.out) (Kd.R_base ho0) hb); have n1_ := Aside0.mk (Kd.R_lower (Kd.R_new' ho0 (Kd.R_lt (by (with_reducible repeat (first | apply Kd.R_alloc | apply Kd.R_drewN | apply Kd.R_drew)); exact HO_3.out))) (below_size bw)); have n2_ := Aside0.mk (below_step bw hb); clear HO_3; clear HB; have HO_3 := n0_; have HO430 := n1_; have HB := n2_; clear n0_ n1_ n2_; (try clear hb); (try clear hb2); (try clear hk); (try clear hi); (try clear ho0)))
      (try simp only [Act.put, List.setIfInBounds_toArray, List.set_cons_zero, List.set_cons_succ])
      go_cut [44] (fun v44 wc => ∃ (kq : Nat) (x44_15 : Bool), v44 = .bool x44_15 ∧ Aside0 (bulletinlaw14_MbxBack.j1 kq t422 t427 x44_15 = some r) ∧ Aside0 (kq ≤ kj6) ∧ Aside0 (Kd.R k31 31 wc w.heap.size (fun k_ => some k_ ≠ (v429 : Value).ownBlock) (.slice Ao17 t422.length co17) t422) ∧ Aside0 (Kd.R k31 31 wc w.heap.size (fun k_ => some k_ ≠ ((.slice Ao17 t422.length co17) : Value).ownBlock) v429 t427) ∧ Aside0 (Below w.heap.size w wc))
      case first =>
       have H := HC16.out
       clear HC16
       by_cases c20 : t428 = 0
       ·rw [if_pos c20] at H
        have c20b0 : (t428 == 0) = true := beq_iff_eq.mpr c20
        have c20b1 : (t428 != 0) = false := bne_eq_false_iff_eq.mpr c20
        clear c20
        (first | rw [c20b0] | (simp only [i64_w, i32_w]; rw [c20b0]) | skip)
        have H' := Aside0.mk H
        clear H
        obtain ⟨Ao21, co21, eo21⟩ := Kd.R_slice HO430.out
        subst eo21
        as_aux_lemma =>
         go_wp2
         go_meet
         case rel => exact ⟨_, (((t427.length : Int) != (t422.length : Int))), cl, H', ⟨by have := HJ6.out; first | omega | exact Nat.le_refl _⟩, ⟨by (with_reducible repeat (first | apply Kd.R_alloc | apply Kd.R_drewN | apply Kd.R_drew)); exact Kd.R_mono HO_3.out (fun _ hk => hk.2)⟩, ⟨by (with_reducible repeat (first | apply Kd.R_alloc | apply Kd.R_drewN | apply Kd.R_drew)); exact Kd.R_mono HO430.out (fun _ hk => hk.2)⟩, ⟨bw⟩⟩
       ·rw [if_neg c20] at H
        have c20b0 : (t428 == 0) = false := beq_eq_false_iff_ne.mpr c20
        have c20b1 : (t428 != 0) = true := bne_iff_ne.mpr c20
        (first | rw [c20b0] | (simp only [i64_w, i32_w]; rw [c20b0]) | skip)
        have H' := Aside0.mk H
        clear H
        as_aux_lemma =>
         go_wp2
         go_meet
         case rel => exact ⟨_, (true), cl, H', ⟨by have := HJ6.out; first | omega | exact Nat.le_refl _⟩, ⟨by (with_reducible repeat (first | apply Kd.R_alloc | apply Kd.R_drewN | apply Kd.R_drew)); exact Kd.R_mono HO_3.out (fun _ hk => hk.2)⟩, ⟨by (with_reducible repeat (first | apply Kd.R_alloc | apply Kd.R_drewN | apply Kd.R_drew)); exact Kd.R_mono HO430.out (fun _ hk => hk.2)⟩, ⟨bw⟩⟩
      case rest =>
       clear HC16
       try clear c1
       try clear c2
       try clear p2
       try clear c3
       try clear c4
       try clear c4b0
       try clear c4b1
       try clear c7
       try clear c9
       try clear c10
       try clear c10b0
       try clear c10b1
       try clear c12
       try clear c13
       try clear c17
       try clear c20
       try clear c20b0
       try clear c20b1
       try clear p2
       obtain ⟨kq, x44_15, rfl, HA, HJ15, HO_3, HO_5, HB⟩ := hcut
       cases kq with
       | zero => exact absurd HA.out (by simp [bulletinlaw14_MbxBack.j1])
       | succ kj15 =>
        have H := HA.out
        clear HA
        simp only [bulletinlaw14_MbxBack.j1] at H
        by_cases c22 : x44_15 = true
        ·subst c22
         have H1 : (some false) = some r := by rw [if_pos rfl] at H; exact H
         clear H
         have H := H1
         clear H1
         obtain rfl := Option.some.inj H
         as_aux_lemma =>
          go_wp2
          go_ret
          exact ⟨by first | rfl | (simp [errW_none, errW_some] <;> rfl) | (simp [*, errW_none, errW_some] <;> rfl), bw⟩
        ·replace c22 := Bool.eq_false_iff.mpr c22
         subst c22
         have H1 : (bulletinlaw14_MbxBack.l0 kj15 t422 t427 (t422.length : Int) 0) = some r := by rw [if_neg (show ¬ (false = true) by decide)] at H; exact H
         clear H
         have H := H1
         clear H1
         have H' := Aside0.mk H
         clear H
         as_aux_lemma =>
          go_wp2
          go_loopg [47] kj15 (fun kq v47 w' => ∃ (x47_3 : Int), v47 = .int .i64 x47_3 ∧ Aside0 (bulletinlaw14_MbxBack.l0 kq t422 t427 (t422.length : Int) x47_3 = some r) ∧ Aside0 (kq ≤ kj15) ∧ Aside0 (Kd.R k31 31 w' w.heap.size (fun k_ => some k_ ≠ (v429 : Value).ownBlock) (.slice Ao17 t422.length co17) t422) ∧ Aside0 (Kd.R k31 31 w' w.heap.size (fun k_ => some k_ ≠ ((.slice Ao17 t422.length co17) : Value).ownBlock) v429 t427) ∧ Aside0 (Below w.heap.size w w'))
          case atStart => exact ⟨(0), cl, H', ⟨Nat.le_refl _⟩, ⟨by (with_reducible repeat (first | apply Kd.R_alloc | apply Kd.R_drewN | apply Kd.R_drew)); exact HO_3.out⟩, ⟨by (with_reducible repeat (first | apply Kd.R_alloc | apply Kd.R_drewN | apply Kd.R_drew)); exact HO_5.out⟩, ⟨bw⟩⟩
          case round =>
           clear H'
           try clear c1
           try clear c2
           try clear p2
           try clear c3
           try clear c4
           try clear c4b0
           try clear c4b1
           try clear c7
           try clear c9
           try clear c10
           try clear c10b0
           try clear c10b1
           try clear c12
           try clear c13
           try clear c17
           try clear c20
           try clear c20b0
           try clear c20b1
           try clear c22
           try clear p2
           obtain ⟨x47_3, rfl, HA, HK3, HO_3, HO_5, HB⟩ := hrel
           cases gk with
           | zero => exact absurd HA.out (by simp [bulletinlaw14_MbxBack.l0])
           | succ k3 =>
            have H := HA.out
            clear HA
            simp only [bulletinlaw14_MbxBack.l0] at H
            by_cases c23 : x47_3 < (t422.length : Int)
            ·rw [if_pos c23] at H
             have c23b0 : decide (x47_3 < (t422.length : Int)) = true := decide_eq_true c23
             clear c23
             by_cases c24 : 0 ≤ x47_3
             ·rw [if_pos c24] at H
              have c24b0 : decide (0 ≤ x47_3) = true := decide_eq_true c24
              clear c24
              by_cases c25 : x47_3 < (t422.length : Int)
              ·rw [if_pos c25] at H
               have c25b0 : decide (x47_3 < (t422.length : Int)) = true := decide_eq_true c25
               clear c25
               replace H := Option.bind_eq_some_iff.mp H
               obtain ⟨t432, A260, H⟩ := H
               replace H : ((mbx_One.f t432).bind fun bt433 => (if x47_3 < (t427.length : Int) then (if (!((((rd_T31 t422 x47_3).f0).toList) == (((rd_T31 t427 x47_3).f0).toList)) || ((!((((rd_T31 t422 x47_3).f1.f0).toList) == (((rd_T31 t427 x47_3).f1.f0).toList)) || (!((((rd_T31 t422 x47_3).f1.f1).toList) == (((rd_T31 t427 x47_3).f1.f1).toList)))))) = true then (some false) else (if bt433.2.2.2 = 0 then (if (!(bt433.1.toList == (((rd_T31 t422 x47_3).f0).toList)) || ((!(bt433.2.1.toList == (((rd_T31 t422 x47_3).f1.f0).toList)) || (!(bt433.2.2.1.toList == (((rd_T31 t422 x47_3).f1.f1).toList)))))) = true then (some false) else ((addr_Addr_Right.f k3 ((rd_T31 t422 x47_3).f1.f0) ((rd_T31 t422 x47_3).f1.f1)).bind fun t442 => (if t442 = true then (bulletinlaw14_MbxBack.l0 k3 t422 t427 (t422.length : Int) (wrap64 (x47_3 + 1))) else (some false)))) else (some false))) else (none))) = some r := H
               have A26 := Aside0.mk A260
               clear A260
               replace H := Option.bind_eq_some_iff.mp H
               obtain ⟨⟨t433, t434, t435, t436⟩, A270, H⟩ := H
               replace H : (if x47_3 < (t427.length : Int) then (if (!((((rd_T31 t422 x47_3).f0).toList) == (((rd_T31 t427 x47_3).f0).toList)) || ((!((((rd_T31 t422 x47_3).f1.f0).toList) == (((rd_T31 t427 x47_3).f1.f0).toList)) || (!((((rd_T31 t422 x47_3).f1.f1).toList) == (((rd_T31 t427 x47_3).f1.f1).toList)))))) = true then (some false) else (if t436 = 0 then (if (!(t433.toList == (((rd_T31 t422 x47_3).f0).toList)) || ((!(t434.toList == (((rd_T31 t422 x47_3).f1.f0).toList)) || (!(t435.toList == (((rd_T31 t422 x47_3).f1.f1).toList)))))) = true then (some false) else ((addr_Addr_Right.f k3 ((rd_T31 t422 x47_3).f1.f0) ((rd_T31 t422 x47_3).f1.f1)).bind fun t442 => (if t442 = true then (bulletinlaw14_MbxBack.l0 k3 t422 t427 (t422.length : Int) (wrap64 (x47_3 + 1))) else (some false)))) else (some false))) else (none)) = some r := H
               have A27 := Aside0.mk A270
               clear A270
               by_cases c28 : x47_3 < (t427.length : Int)
               ·rw [if_pos c28] at H
                have c28b0 : decide (x47_3 < (t427.length : Int)) = true := decide_eq_true c28
                clear c28
                by_cases c29 : (!((((rd_T31 t422 x47_3).f0).toList) == (((rd_T31 t427 x47_3).f0).toList)) || ((!((((rd_T31 t422 x47_3).f1.f0).toList) == (((rd_T31 t427 x47_3).f1.f0).toList)) || (!((((rd_T31 t422 x47_3).f1.f1).toList) == (((rd_T31 t427 x47_3).f1.f1).toList)))))) = true
                ·rw [if_pos c29] at H
                 have c29b0 : (!((((rd_T31 t422 x47_3).f0).toList) == (((rd_T31 t427 x47_3).f0).toList)) || ((!((((rd_T31 t422 x47_3).f1.f0).toList) == (((rd_T31 t427 x47_3).f1.f0).toList)) || (!((((rd_T31 t422 x47_3).f1.f1).toList) == (((rd_T31 t427 x47_3).f1.f1).toList)))))) = true := c29
                 clear c29
                 obtain rfl := Option.some.inj H
                 have p431 : 0 ≤ (x47_3 : Int) := od
                 have q431 : x47_3 < (t422.length : Int) := od
                 obtain ⟨ad431, e431, hx431_0, hx431_1, hx431_2⟩ := at_T31 (Kd.R_reads' HO_3.out).2.2 x47_3 p431 q431
                 cases e431
                 replace p431 := eq_true p431
                 replace q431 := eq_true q431
                 as_aux_lemma =>
                  try go_wp2_with (first | ((with_reducible refine gate_callee (f := 11) rfl ?_); refine goesL_ (some 55) rfl rfl Tryd.func11 (by kernel_rfl) rfl #[.agg #[.string ((rd_T31 t422 x47_3).f0), .string ((rd_T31 t422 x47_3).f1.f0), .string ((rd_T31 t422 x47_3).f1.f1)]] rfl am ?_; (with_reducible refine (mbx_Show.calls k3 ((rd_T31 t422 x47_3).f0) ((rd_T31 t422 x47_3).f1.f0) ((rd_T31 t422 x47_3).f1.f1) t432 _ A26.out).mono ?_); rintro e w30 ⟨rfl, hb⟩; refine ⟨_, rfl, ?_⟩; have n0_ := Aside0.mk (Kd.R_below (by (with_reducible repeat (first | apply Kd.R_alloc | apply Kd.R_drewN | apply Kd.R_drew)); exact HO_3.out) hb); have n1_ := Aside0.mk (Kd.R_below (by (with_reducible repeat (first | apply Kd.R_alloc | apply Kd.R_drewN | apply Kd.R_drew)); exact HO_5.out) hb); have n2_ := Aside0.mk (below_step bw hb); clear HO_3; clear HO_5; clear HB; have HO_3 := n0_; have HO_5 := n1_; have HB := n2_; clear n0_ n1_ n2_; (try clear hb); (try clear hb2); (try clear hk); (try clear hi)) | ((with_reducible refine gate_callee (f := 19) rfl ?_); refine goesL_ (some 56) rfl rfl Tryd.func19 (by kernel_rfl) rfl #[.string t432] rfl am ?_; (with_reducible refine (mbx_One.calls (hG := by first | exact hG | exact Glob.below hG (by first | exact HB.out | (repeat (first | (with_reducible first | exact HB.out | apply below_alloc | apply pw_below_drewN | apply below_drew1 | refine below_set ?_ GE437.out) | exact HB.out))) | exact Glob.drawn hG (by repeat (first | exact Drawn0.refl _ | apply Drawn0.step))) t432 t433 t434 t435 t436 _ A27.out).mono ?_); rintro e w31 ⟨rfl, hb⟩; refine ⟨_, rfl, ?_⟩; have n0_ := Aside0.mk (Kd.R_below (by (with_reducible repeat (first | apply Kd.R_alloc | apply Kd.R_drewN | apply Kd.R_drew)); exact HO_3.out) hb); have n1_ := Aside0.mk (Kd.R_below (by (with_reducible repeat (first | apply Kd.R_alloc | apply Kd.R_drewN | apply Kd.R_drew)); exact HO_5.out) hb); have n2_ := Aside0.mk (below_step bw hb); clear HO_3; clear HO_5; clear HB; have HO_3 := n0_; have HO_5 := n1_; have HB := n2_; clear n0_ n1_ n2_; (try clear hb); (try clear hb2); (try clear hk); (try clear hi)) | ((with_reducible refine gate_dst (N := 8) rfl ?_); (try (refine gate_guard (by rfl) ?_; dsimp only)); refine box_event ?hg (N := 8) ?hd (cs := #[.string (⟨#[]⟩ : ByteArray), .string (⟨#[]⟩ : ByteArray), .string (⟨#[]⟩ : ByteArray)]) (t := 31) ?hr ?_; (case hd => rfl); (case hg => rfl); (case hr => first | (go_simp; done) | (go_simp; rfl)); intro gb437 hg w32 hbox hb; have n0_ := Aside0.mk (Kd.R_below (Kd.R_elderB (by (with_reducible repeat (first | apply Kd.R_alloc | apply Kd.R_drewN | apply Kd.R_drew)); exact HO_3.out) gb437 (Nat.le_of_eq hg.symm)) hb); have n1_ := Aside0.mk (Kd.R_below (Kd.R_elderB (by (with_reducible repeat (first | apply Kd.R_alloc | apply Kd.R_drewN | apply Kd.R_drew)); exact HO_5.out) gb437 (Nat.le_of_eq hg.symm)) hb); have n2_ := Aside0.mk (below_step bw hb); have n3_ := Aside0.mk (hbox); have n4_ := Aside0.mk ((by rw [hg]; exact (below_size bw) : w.heap.size ≤ gb437)); have n5_ := Aside0.mk ((by rw [hg]; exact (below_size bw) : w.heap.size ≤ gb437)); clear HO_3; clear HO_5; clear HB; have HO_3 := n0_; have HO_5 := n1_; have HB := n2_; have BK437 := n3_; have GW437 := n4_; have GE437 := n5_; clear n0_ n1_ n2_ n3_ n4_ n5_; clear hb hbox hg; have hcz33_0 : w32.cell? ⟨gb437, 0, none⟩ = some (.string (⟨#[]⟩ : ByteArray)) := (blk_cell BK437.out 0).trans rfl; have hcz33_1 : w32.cell? ⟨gb437, 1, none⟩ = some (.string (⟨#[]⟩ : ByteArray)) := (blk_cell BK437.out 1).trans rfl; have hcz33_2 : w32.cell? ⟨gb437, 2, none⟩ = some (.string (⟨#[]⟩ : ByteArray)) := (blk_cell BK437.out 2).trans rfl; have hfz33_0 := blk_frozen BK437.out 0; have hfz33_1 := blk_frozen BK437.out 1; have hfz33_2 := blk_frozen BK437.out 2))
                  have n0_ : Aside0 (Kd.R k31 31 (((w32.setCell ⟨gb437, 0, none⟩ (.string t433)).setCell ⟨gb437, 1, none⟩ (.string t434)).setCell ⟨gb437, 2, none⟩ (.string t435)) w.heap.size (fun k_ => some k_ ≠ (v429 : Value).ownBlock ∧ k_ ≠ gb437) (.slice (some ad431) t422.length co17) t422) := ⟨by (with_reducible repeat (first | apply Kd.R_alloc | apply Kd.R_drewN | apply Kd.R_drew)); exact Kd.R_mono (Kd.R_far (p := ⟨gb437, 2, none⟩) (Kd.R_far (p := ⟨gb437, 1, none⟩) (Kd.R_far (p := ⟨gb437, 0, none⟩) (Kd.R_mono HO_3.out (fun k_ hk => (⟨hk, hk.2⟩ : _ ∧ k_ ≠ gb437))) (fun _ hk => hk.2) (.string t433)) (fun _ hk => hk.2) (.string t434)) (fun _ hk => hk.2) (.string t435)) (fun _ hk => ⟨hk.1.1, hk.1.2⟩)⟩
                  have n1_ : Aside0 (Kd.R k31 31 (((w32.setCell ⟨gb437, 0, none⟩ (.string t433)).setCell ⟨gb437, 1, none⟩ (.string t434)).setCell ⟨gb437, 2, none⟩ (.string t435)) w.heap.size (fun k_ => some k_ ≠ (.slice (some ad431) t422.length co17 : Value).ownBlock ∧ k_ ≠ gb437) v429 t427) := ⟨by (with_reducible repeat (first | apply Kd.R_alloc | apply Kd.R_drewN | apply Kd.R_drew)); exact Kd.R_mono (Kd.R_far (p := ⟨gb437, 2, none⟩) (Kd.R_far (p := ⟨gb437, 1, none⟩) (Kd.R_far (p := ⟨gb437, 0, none⟩) (Kd.R_mono HO_5.out (fun k_ hk => (⟨hk, hk.2⟩ : _ ∧ k_ ≠ gb437))) (fun _ hk => hk.2) (.string t433)) (fun _ hk => hk.2) (.string t434)) (fun _ hk => hk.2) (.string t435)) (fun _ hk => ⟨hk.1.1, hk.1.2⟩)⟩
                  have n2_ : Aside0 ((((w32.setCell ⟨gb437, 0, none⟩ (.string t433)).setCell ⟨gb437, 1, none⟩ (.string t434)).setCell ⟨gb437, 2, none⟩ (.string t435)).heap[gb437]? = some (.cells #[.string t433, .string t434, .string t435] 31 (0, 0))) := ⟨by (with_reducible repeat (first | refine blk_drewN ?_ _ | refine blk_drew ?_ | refine blk_alloc ?_ _)); refine blk_put (cs := #[.string t433, .string t434, .string (⟨#[]⟩ : ByteArray)]) ?_ 2 _ rfl; (with_reducible repeat (first | refine blk_drewN ?_ _ | refine blk_drew ?_ | refine blk_alloc ?_ _)); refine blk_put (cs := #[.string t433, .string (⟨#[]⟩ : ByteArray), .string (⟨#[]⟩ : ByteArray)]) ?_ 1 _ rfl; (with_reducible repeat (first | refine blk_drewN ?_ _ | refine blk_drew ?_ | refine blk_alloc ?_ _)); refine blk_put (cs := #[.string (⟨#[]⟩ : ByteArray), .string (⟨#[]⟩ : ByteArray), .string (⟨#[]⟩ : ByteArray)]) ?_ 0 _ rfl; (with_reducible repeat (first | refine blk_drewN ?_ _ | refine blk_drew ?_ | refine blk_alloc ?_ _)); exact BK437.out⟩
                  have n3_ : Aside0 (Below w.heap.size w (((w32.setCell ⟨gb437, 0, none⟩ (.string t433)).setCell ⟨gb437, 1, none⟩ (.string t434)).setCell ⟨gb437, 2, none⟩ (.string t435))) := ⟨bwS⟩
                  (try clear HO_3)
                  (try clear HO_5)
                  (try clear BK437)
                  (try clear HB)
                  generalize (((w32.setCell ⟨gb437, 0, none⟩ (.string t433)).setCell ⟨gb437, 1, none⟩ (.string t434)).setCell ⟨gb437, 2, none⟩ (.string t435)) = w34 at n0_ n1_ n2_ n3_ ⊢
                  have HO_3 := n0_
                  have HO_5 := n1_
                  have BK437 := n2_
                  have HB := n3_
                  clear n0_ n1_ n2_ n3_
                  have n0_ := Aside0.mk (Kd.R_drew HO_3.out)
                  have n1_ := Aside0.mk (Kd.R_drew HO_5.out)
                  have n2_ := Aside0.mk (blk_drew BK437.out)
                  have n3_ := Aside0.mk (below_drew1 HB.out)
                  clear HO_3
                  clear HO_5
                  clear BK437
                  clear HB
                  have HO_3 := n0_
                  have HO_5 := n1_
                  have BK437 := n2_
                  have HB := n3_
                  clear n0_ n1_ n2_ n3_
                  have p438 : 0 ≤ (x47_3 : Int) := od
                  have q438 : x47_3 < (t422.length : Int) := od
                  obtain ⟨ad438, e438, hx438_0, hx438_1, hx438_2⟩ := at_T31 (Kd.R_reads' HO_3.out).2.2 x47_3 p438 q438
                  obtain rfl : ad431 = ad438 := (by injection e438)
                  replace p438 := eq_true p438
                  replace q438 := eq_true q438
                  obtain ⟨Ao36, co36, eo36⟩ := Kd.R_slice HO_5.out
                  (first | subst eo36 | (injection eo36 with f1_ f2_ f3_; have f4_ := f1_.symm; have f5_ := f3_.symm; clear f1_ f2_ f3_; subst f4_; subst f5_))
                  have p439 : 0 ≤ (x47_3 : Int) := od
                  have q439 : x47_3 < (t427.length : Int) := od
                  obtain ⟨ad439, e439, hx439_0, hx439_1, hx439_2⟩ := at_T31 (Kd.R_reads' HO_5.out).2.2 x47_3 p439 q439
                  cases e439
                  replace p439 := eq_true p439
                  replace q439 := eq_true q439
                  refine start_ (n := 30) (S := fun w' => w'.cell? (ad431.add ((x47_3).toNat * 3)) = some (.string ((rd_T31 t422 x47_3).f0)) ∧ w'.cell? ⟨(ad431.add ((x47_3).toNat * 3)).block, (ad431.add ((x47_3).toNat * 3)).off + 1, none⟩ = some (.string ((rd_T31 t422 x47_3).f1.f0)) ∧ w'.cell? ⟨(ad431.add ((x47_3).toNat * 3)).block, (ad431.add ((x47_3).toNat * 3)).off + 2, none⟩ = some (.string ((rd_T31 t422 x47_3).f1.f1)) ∧ w'.cell? (ad439.add ((x47_3).toNat * 3)) = some (.string ((rd_T31 t427 x47_3).f0)) ∧ w'.cell? ⟨(ad439.add ((x47_3).toNat * 3)).block, (ad439.add ((x47_3).toNat * 3)).off + 1, none⟩ = some (.string ((rd_T31 t427 x47_3).f1.f0)) ∧ w'.cell? ⟨(ad439.add ((x47_3).toNat * 3)).block, (ad439.add ((x47_3).toNat * 3)).off + 2, none⟩ = some (.string ((rd_T31 t427 x47_3).f1.f1))) (ds := []) #[false, false, false, false, false, false, false, false, false, false, false, false, false, false, false, false, false, false, false, false, false, false, false, false, false, false, false, false, false, false] (by kernel_rfl) rfl rfl ⟨hx438_0, hx438_1, hx438_2, hx439_0, hx439_1, hx439_2⟩ (fun hHeld => ?_); refine with_tabW bulletinlaw14_MbxBack.tab15 bulletinlaw14_MbxBack.bits15 (fun HT_ HW_ => ?_)
                  generalize w34.drew = w35 at HO_3 HO_5 BK437 HB hx438_0 hx438_1 hx438_2 hx439_0 hx439_1 hx439_2 hHeld ⊢
                  refine pure_ (i := 0) (N := some 59) (v := ?_) (a' := ?_) (bitsL 30 1) rfl rfl (any_of HT_.out (by kernel_rfl)) (fun _ _ _ h => h) (Or.inl ⟨by rfl, ?_⟩) ?_ ?_
                  rotate_left
                  ·intro w'
                   go_simp
                   with_reducible rfl
                  rotate_left
                  ·simp only [Act.put, List.setIfInBounds_toArray, List.set_cons_zero, List.set_cons_succ, i64_w, i32_w]
                   rfl
                  refine pure_ (i := 1) (N := some 60) (v := ?_) (a' := ?_) (bitsL 30 3) rfl rfl (any_of HT_.out (by kernel_rfl)) (fun _ _ _ h => h) (Or.inl ⟨by rfl, ?_⟩) ?_ ?_
                  rotate_left
                  ·intro w'
                   go_simp
                   with_reducible rfl
                  rotate_left
                  ·simp only [Act.put, List.setIfInBounds_toArray, List.set_cons_zero, List.set_cons_succ, i64_w, i32_w]
                   rfl
                  refine pure_ (i := 2) (N := some 61) (v := ?_) (a' := ?_) (bitsL 30 7) rfl rfl (any_of HT_.out (by kernel_rfl)) (fun _ _ _ h => h) (Or.inl ⟨by rfl, ?_⟩) ?_ ?_
                  rotate_left
                  ·intro w'
                   go_simp
                   with_reducible rfl
                  rotate_left
                  ·simp only [Act.put, List.setIfInBounds_toArray, List.set_cons_zero, List.set_cons_succ, i64_w, i32_w]
                   rfl
                  refine pure_ (i := 4) (N := some 63) (v := ?_) (a' := ?_) (bitsL 30 23) rfl rfl (any_of HT_.out (by kernel_rfl)) (fun _ _ _ h => h) (Or.inl ⟨by rfl, ?_⟩) ?_ ?_
                  rotate_left
                  ·intro w'
                   go_simp
                   with_reducible rfl
                  rotate_left
                  ·simp only [Act.put, List.setIfInBounds_toArray, List.set_cons_zero, List.set_cons_succ, i64_w, i32_w]
                   rfl
                  refine pure_ (i := 5) (N := some 64) (v := ?_) (a' := ?_) (bitsL 30 55) rfl rfl (any_of HT_.out (by kernel_rfl)) (fun _ _ _ h => h) (Or.inl ⟨by rfl, ?_⟩) ?_ ?_
                  rotate_left
                  ·intro w'
                   go_simp
                   with_reducible rfl
                  rotate_left
                  ·simp only [Act.put, List.setIfInBounds_toArray, List.set_cons_zero, List.set_cons_succ, i64_w, i32_w]
                   rfl
                  refine pure_ (i := 6) (N := some 65) (v := ?_) (a' := ?_) (bitsL 30 119) rfl rfl (any_of HT_.out (by kernel_rfl)) (fun _ _ _ h => h) (Or.inl ⟨by rfl, ?_⟩) ?_ ?_
                  rotate_left
                  ·intro w'
                   go_simp
                   with_reducible rfl
                  rotate_left
                  ·simp only [Act.put, List.setIfInBounds_toArray, List.set_cons_zero, List.set_cons_succ, i64_w, i32_w]
                   rfl
                  refine take_ (i := 3) (N := some 62) (v := ?_) (a' := ?_) (bitsL 30 127) rfl rfl (take_ofW HT_.out HW_.out (by kernel_rfl)) (fun _ _ _ h => h) (Or.inl ⟨by rfl, ?_⟩) hHeld ?_ ?_
                  rotate_left
                  ·rintro w' ⟨s0, s1, s2, s3, s4, s5⟩
                   go_simp
                   with_reducible rfl
                  rotate_left
                  ·simp only [Act.put, List.setIfInBounds_toArray, List.set_cons_zero, List.set_cons_succ, i64_w, i32_w]
                   rfl
                  refine take_ (i := 7) (N := some 66) (v := ?_) (a' := ?_) (bitsL 30 255) rfl rfl (take_ofW HT_.out HW_.out (by kernel_rfl)) (fun _ _ _ h => h) (Or.inl ⟨by rfl, ?_⟩) hHeld ?_ ?_
                  rotate_left
                  ·rintro w' ⟨s0, s1, s2, s3, s4, s5⟩
                   go_simp
                   with_reducible rfl
                  rotate_left
                  ·simp only [Act.put, List.setIfInBounds_toArray, List.set_cons_zero, List.set_cons_succ, i64_w, i32_w]
                   rfl
                  refine pure_ (i := 8) (N := some 67) (v := ?_) (a' := ?_) (bitsL 30 511) rfl rfl (any_of HT_.out (by kernel_rfl)) (fun _ _ _ h => h) (Or.inl ⟨by rfl, ?_⟩) ?_ ?_
                  rotate_left
                  ·intro w'
                   go_simp
                   with_reducible rfl
                  rotate_left
                  ·simp only [Act.put, List.setIfInBounds_toArray, List.set_cons_zero, List.set_cons_succ, i64_w, i32_w]
                   rfl
                  refine pure_ (i := 9) (N := some 68) (v := ?_) (a' := ?_) (bitsL 30 1023) rfl rfl (any_of HT_.out (by kernel_rfl)) (fun _ _ _ h => h) (Or.inl ⟨by rfl, ?_⟩) ?_ ?_
                  rotate_left
                  ·intro w'
                   go_simp
                   with_reducible rfl
                  rotate_left
                  ·simp only [Act.put, List.setIfInBounds_toArray, List.set_cons_zero, List.set_cons_succ, i64_w, i32_w]
                   rfl
                  refine pure_ (i := 10) (N := some 69) (v := undef) (a' := ?_) (bitsL 30 2047) rfl rfl (any_of HT_.out (by kernel_rfl)) (fun _ _ _ h => h) (Or.inr ⟨by rfl, rfl⟩) ?_ ?_
                  rotate_left
                  ·simp only [Act.put, List.setIfInBounds_toArray, List.set_cons_zero, List.set_cons_succ, i64_w, i32_w]
                   rfl
                  refine pure_ (i := 11) (N := some 70) (v := undef) (a' := ?_) (bitsL 30 4095) rfl rfl (any_of HT_.out (by kernel_rfl)) (fun _ _ _ h => h) (Or.inr ⟨by rfl, rfl⟩) ?_ ?_
                  rotate_left
                  ·simp only [Act.put, List.setIfInBounds_toArray, List.set_cons_zero, List.set_cons_succ, i64_w, i32_w]
                   rfl
                  refine pure_ (i := 12) (N := some 71) (v := ?_) (a' := ?_) (bitsL 30 8191) rfl rfl (any_of HT_.out (by kernel_rfl)) (fun _ _ _ h => h) (Or.inl ⟨by rfl, ?_⟩) ?_ ?_
                  rotate_left
                  ·intro w'
                   go_simp
                   with_reducible rfl
                  rotate_left
                  ·simp only [Act.put, List.setIfInBounds_toArray, List.set_cons_zero, List.set_cons_succ, i64_w, i32_w]
                   rfl
                  refine pure_ (i := 13) (N := some 72) (v := ?_) (a' := ?_) (bitsL 30 16383) rfl rfl (any_of HT_.out (by kernel_rfl)) (fun _ _ _ h => h) (Or.inl ⟨by rfl, ?_⟩) ?_ ?_
                  rotate_left
                  ·intro w'
                   go_simp
                   with_reducible rfl
                  rotate_left
                  ·simp only [Act.put, List.setIfInBounds_toArray, List.set_cons_zero, List.set_cons_succ, i64_w, i32_w]
                   rfl
                  refine pure_ (i := 14) (N := some 73) (v := undef) (a' := ?_) (bitsL 30 32767) rfl rfl (any_of HT_.out (by kernel_rfl)) (fun _ _ _ h => h) (Or.inr ⟨by rfl, rfl⟩) ?_ ?_
                  rotate_left
                  ·simp only [Act.put, List.setIfInBounds_toArray, List.set_cons_zero, List.set_cons_succ, i64_w, i32_w]
                   rfl
                  refine pure_ (i := 15) (N := some 74) (v := undef) (a' := ?_) (bitsL 30 65535) rfl rfl (any_of HT_.out (by kernel_rfl)) (fun _ _ _ h => h) (Or.inr ⟨by rfl, rfl⟩) ?_ ?_
                  rotate_left
                  ·simp only [Act.put, List.setIfInBounds_toArray, List.set_cons_zero, List.set_cons_succ, i64_w, i32_w]
                   rfl
                  refine pure_ (i := 16) (N := some 75) (v := undef) (a' := ?_) (bitsL 30 131071) rfl rfl (any_of HT_.out (by kernel_rfl)) (fun _ _ _ h => h) (Or.inr ⟨by rfl, rfl⟩) ?_ ?_
                  rotate_left
                  ·simp only [Act.put, List.setIfInBounds_toArray, List.set_cons_zero, List.set_cons_succ, i64_w, i32_w]
                   rfl
                  refine pure_ (i := 17) (N := some 76) (v := undef) (a' := ?_) (bitsL 30 262143) rfl rfl (any_of HT_.out (by kernel_rfl)) (fun _ _ _ h => h) (Or.inr ⟨by rfl, rfl⟩) ?_ ?_
                  rotate_left
                  ·simp only [Act.put, List.setIfInBounds_toArray, List.set_cons_zero, List.set_cons_succ, i64_w, i32_w]
                   rfl
                  refine pure_ (i := 18) (N := some 77) (v := undef) (a' := ?_) (bitsL 30 524287) rfl rfl (any_of HT_.out (by kernel_rfl)) (fun _ _ _ h => h) (Or.inr ⟨by rfl, rfl⟩) ?_ ?_
                  rotate_left
                  ·simp only [Act.put, List.setIfInBounds_toArray, List.set_cons_zero, List.set_cons_succ, i64_w, i32_w]
                   rfl
                  refine pure_ (i := 19) (N := some 78) (v := undef) (a' := ?_) (bitsL 30 1048575) rfl rfl (any_of HT_.out (by kernel_rfl)) (fun _ _ _ h => h) (Or.inr ⟨by rfl, rfl⟩) ?_ ?_
                  rotate_left
                  ·simp only [Act.put, List.setIfInBounds_toArray, List.set_cons_zero, List.set_cons_succ, i64_w, i32_w]
                   rfl
                  refine pure_ (i := 20) (N := some 79) (v := ?_) (a' := ?_) (bitsL 30 2097151) rfl rfl (any_of HT_.out (by kernel_rfl)) (fun _ _ _ h => h) (Or.inl ⟨by rfl, ?_⟩) ?_ ?_
                  rotate_left
                  ·intro w'
                   go_simp
                   with_reducible rfl
                  rotate_left
                  ·simp only [Act.put, List.setIfInBounds_toArray, List.set_cons_zero, List.set_cons_succ, i64_w, i32_w]
                   rfl
                  refine pure_ (i := 21) (N := some 80) (v := ?_) (a' := ?_) (bitsL 30 4194303) rfl rfl (any_of HT_.out (by kernel_rfl)) (fun _ _ _ h => h) (Or.inl ⟨by rfl, ?_⟩) ?_ ?_
                  rotate_left
                  ·intro w'
                   go_simp
                   with_reducible rfl
                  rotate_left
                  ·simp only [Act.put, List.setIfInBounds_toArray, List.set_cons_zero, List.set_cons_succ, i64_w, i32_w]
                   rfl
                  refine pure_ (i := 22) (N := some 81) (v := undef) (a' := ?_) (bitsL 30 8388607) rfl rfl (any_of HT_.out (by kernel_rfl)) (fun _ _ _ h => h) (Or.inr ⟨by rfl, rfl⟩) ?_ ?_
                  rotate_left
                  ·simp only [Act.put, List.setIfInBounds_toArray, List.set_cons_zero, List.set_cons_succ, i64_w, i32_w]
                   rfl
                  refine pure_ (i := 23) (N := some 82) (v := undef) (a' := ?_) (bitsL 30 16777215) rfl rfl (any_of HT_.out (by kernel_rfl)) (fun _ _ _ h => h) (Or.inr ⟨by rfl, rfl⟩) ?_ ?_
                  rotate_left
                  ·simp only [Act.put, List.setIfInBounds_toArray, List.set_cons_zero, List.set_cons_succ, i64_w, i32_w]
                   rfl
                  refine pure_ (i := 24) (N := some 83) (v := undef) (a' := ?_) (bitsL 30 33554431) rfl rfl (any_of HT_.out (by kernel_rfl)) (fun _ _ _ h => h) (Or.inr ⟨by rfl, rfl⟩) ?_ ?_
                  rotate_left
                  ·simp only [Act.put, List.setIfInBounds_toArray, List.set_cons_zero, List.set_cons_succ, i64_w, i32_w]
                   rfl
                  refine pure_ (i := 25) (N := some 84) (v := undef) (a' := ?_) (bitsL 30 67108863) rfl rfl (any_of HT_.out (by kernel_rfl)) (fun _ _ _ h => h) (Or.inr ⟨by rfl, rfl⟩) ?_ ?_
                  rotate_left
                  ·simp only [Act.put, List.setIfInBounds_toArray, List.set_cons_zero, List.set_cons_succ, i64_w, i32_w]
                   rfl
                  refine pure_ (i := 26) (N := some 85) (v := undef) (a' := ?_) (bitsL 30 134217727) rfl rfl (any_of HT_.out (by kernel_rfl)) (fun _ _ _ h => h) (Or.inr ⟨by rfl, rfl⟩) ?_ ?_
                  rotate_left
                  ·simp only [Act.put, List.setIfInBounds_toArray, List.set_cons_zero, List.set_cons_succ, i64_w, i32_w]
                   rfl
                  refine pure_ (i := 27) (N := some 86) (v := undef) (a' := ?_) (bitsL 30 268435455) rfl rfl (any_of HT_.out (by kernel_rfl)) (fun _ _ _ h => h) (Or.inr ⟨by rfl, rfl⟩) ?_ ?_
                  rotate_left
                  ·simp only [Act.put, List.setIfInBounds_toArray, List.set_cons_zero, List.set_cons_succ, i64_w, i32_w]
                   rfl
                  refine pure_ (i := 28) (N := some 87) (v := undef) (a' := ?_) (bitsL 30 536870911) rfl rfl (any_of HT_.out (by kernel_rfl)) (fun _ _ _ h => h) (Or.inr ⟨by rfl, rfl⟩) ?_ ?_
                  rotate_left
                  ·simp only [Act.put, List.setIfInBounds_toArray, List.set_cons_zero, List.set_cons_succ, i64_w, i32_w]
                   rfl
                  refine pure_ (i := 29) (N := some 88) (v := ?_) (a' := ?_) (bitsL 30 1073741823) rfl rfl (any_of HT_.out (by kernel_rfl)) (fun _ _ _ h => h) (Or.inl ⟨by rfl, ?_⟩) ?_ ?_
                  rotate_left
                  ·intro w'
                   go_simp
                   with_reducible rfl
                  rotate_left
                  ·simp only [Act.put, List.setIfInBounds_toArray, List.set_cons_zero, List.set_cons_succ, i64_w, i32_w]
                   rfl
                  refine done_ (done_of HT_.out (by kernel_rfl)) ?_
                  as_aux_lemma =>
                   try go_wp2
                   go_ret
                   exact ⟨by first | rfl | (simp [errW_none, errW_some] <;> rfl) | (simp [*, errW_none, errW_some] <;> rfl), bwS⟩
                ·rw [if_neg c29] at H
                 have c29b0 : (!((((rd_T31 t422 x47_3).f0).toList) == (((rd_T31 t427 x47_3).f0).toList)) || ((!((((rd_T31 t422 x47_3).f1.f0).toList) == (((rd_T31 t427 x47_3).f1.f0).toList)) || (!((((rd_T31 t422 x47_3).f1.f1).toList) == (((rd_T31 t427 x47_3).f1.f1).toList)))))) = false := by simpa using c29
                 clear c29
                 by_cases c37 : t436 = 0
                 ·rw [if_pos c37] at H
                  have c37b0 : (t436 == 0) = true := beq_iff_eq.mpr c37
                  have c37b1 : (t436 != 0) = false := bne_eq_false_iff_eq.mpr c37
                  clear c37
                  by_cases c38 : (!(t433.toList == (((rd_T31 t422 x47_3).f0).toList)) || ((!(t434.toList == (((rd_T31 t422 x47_3).f1.f0).toList)) || (!(t435.toList == (((rd_T31 t422 x47_3).f1.f1).toList)))))) = true
                  ·rw [if_pos c38] at H
                   have c38b0 : (!(t433.toList == (((rd_T31 t422 x47_3).f0).toList)) || ((!(t434.toList == (((rd_T31 t422 x47_3).f1.f0).toList)) || (!(t435.toList == (((rd_T31 t422 x47_3).f1.f1).toList)))))) = true := c38
                   clear c38
                   obtain rfl := Option.some.inj H
                   have p431 : 0 ≤ (x47_3 : Int) := od
                   have q431 : x47_3 < (t422.length : Int) := od
                   obtain ⟨ad431, e431, hx431_0, hx431_1, hx431_2⟩ := at_T31 (Kd.R_reads' HO_3.out).2.2 x47_3 p431 q431
                   cases e431
                   replace p431 := eq_true p431
                   replace q431 := eq_true q431
                   as_aux_lemma =>
                    try go_wp2_with (first | ((with_reducible refine gate_callee (f := 11) rfl ?_); refine goesL_ (some 55) rfl rfl Tryd.func11 (by kernel_rfl) rfl #[.agg #[.string ((rd_T31 t422 x47_3).f0), .string ((rd_T31 t422 x47_3).f1.f0), .string ((rd_T31 t422 x47_3).f1.f1)]] rfl am ?_; (with_reducible refine (mbx_Show.calls k3 ((rd_T31 t422 x47_3).f0) ((rd_T31 t422 x47_3).f1.f0) ((rd_T31 t422 x47_3).f1.f1) t432 _ A26.out).mono ?_); rintro e w39 ⟨rfl, hb⟩; refine ⟨_, rfl, ?_⟩; have n0_ := Aside0.mk (Kd.R_below (by (with_reducible repeat (first | apply Kd.R_alloc | apply Kd.R_drewN | apply Kd.R_drew)); exact HO_3.out) hb); have n1_ := Aside0.mk (Kd.R_below (by (with_reducible repeat (first | apply Kd.R_alloc | apply Kd.R_drewN | apply Kd.R_drew)); exact HO_5.out) hb); have n2_ := Aside0.mk (below_step bw hb); clear HO_3; clear HO_5; clear HB; have HO_3 := n0_; have HO_5 := n1_; have HB := n2_; clear n0_ n1_ n2_; (try clear hb); (try clear hb2); (try clear hk); (try clear hi)) | ((with_reducible refine gate_callee (f := 19) rfl ?_); refine goesL_ (some 56) rfl rfl Tryd.func19 (by kernel_rfl) rfl #[.string t432] rfl am ?_; (with_reducible refine (mbx_One.calls (hG := by first | exact hG | exact Glob.below hG (by first | exact HB.out | (repeat (first | (with_reducible first | exact HB.out | apply below_alloc | apply pw_below_drewN | apply below_drew1 | refine below_set ?_ GE437.out) | exact HB.out))) | exact Glob.drawn hG (by repeat (first | exact Drawn0.refl _ | apply Drawn0.step))) t432 t433 t434 t435 t436 _ A27.out).mono ?_); rintro e w40 ⟨rfl, hb⟩; refine ⟨_, rfl, ?_⟩; have n0_ := Aside0.mk (Kd.R_below (by (with_reducible repeat (first | apply Kd.R_alloc | apply Kd.R_drewN | apply Kd.R_drew)); exact HO_3.out) hb); have n1_ := Aside0.mk (Kd.R_below (by (with_reducible repeat (first | apply Kd.R_alloc | apply Kd.R_drewN | apply Kd.R_drew)); exact HO_5.out) hb); have n2_ := Aside0.mk (below_step bw hb); clear HO_3; clear HO_5; clear HB; have HO_3 := n0_; have HO_5 := n1_; have HB := n2_; clear n0_ n1_ n2_; (try clear hb); (try clear hb2); (try clear hk); (try clear hi)) | ((with_reducible refine gate_dst (N := 8) rfl ?_); (try (refine gate_guard (by rfl) ?_; dsimp only)); refine box_event ?hg (N := 8) ?hd (cs := #[.string (⟨#[]⟩ : ByteArray), .string (⟨#[]⟩ : ByteArray), .string (⟨#[]⟩ : ByteArray)]) (t := 31) ?hr ?_; (case hd => rfl); (case hg => rfl); (case hr => first | (go_simp; done) | (go_simp; rfl)); intro gb437 hg w41 hbox hb; have n0_ := Aside0.mk (Kd.R_below (Kd.R_elderB (by (with_reducible repeat (first | apply Kd.R_alloc | apply Kd.R_drewN | apply Kd.R_drew)); exact HO_3.out) gb437 (Nat.le_of_eq hg.symm)) hb); have n1_ := Aside0.mk (Kd.R_below (Kd.R_elderB (by (with_reducible repeat (first | apply Kd.R_alloc | apply Kd.R_drewN | apply Kd.R_drew)); exact HO_5.out) gb437 (Nat.le_of_eq hg.symm)) hb); have n2_ := Aside0.mk (below_step bw hb); have n3_ := Aside0.mk (hbox); have n4_ := Aside0.mk ((by rw [hg]; exact (below_size bw) : w.heap.size ≤ gb437)); have n5_ := Aside0.mk ((by rw [hg]; exact (below_size bw) : w.heap.size ≤ gb437)); clear HO_3; clear HO_5; clear HB; have HO_3 := n0_; have HO_5 := n1_; have HB := n2_; have BK437 := n3_; have GW437 := n4_; have GE437 := n5_; clear n0_ n1_ n2_ n3_ n4_ n5_; clear hb hbox hg; have hcz42_0 : w41.cell? ⟨gb437, 0, none⟩ = some (.string (⟨#[]⟩ : ByteArray)) := (blk_cell BK437.out 0).trans rfl; have hcz42_1 : w41.cell? ⟨gb437, 1, none⟩ = some (.string (⟨#[]⟩ : ByteArray)) := (blk_cell BK437.out 1).trans rfl; have hcz42_2 : w41.cell? ⟨gb437, 2, none⟩ = some (.string (⟨#[]⟩ : ByteArray)) := (blk_cell BK437.out 2).trans rfl; have hfz42_0 := blk_frozen BK437.out 0; have hfz42_1 := blk_frozen BK437.out 1; have hfz42_2 := blk_frozen BK437.out 2))
                    have n0_ : Aside0 (Kd.R k31 31 (((w41.setCell ⟨gb437, 0, none⟩ (.string t433)).setCell ⟨gb437, 1, none⟩ (.string t434)).setCell ⟨gb437, 2, none⟩ (.string t435)) w.heap.size (fun k_ => some k_ ≠ (v429 : Value).ownBlock ∧ k_ ≠ gb437) (.slice (some ad431) t422.length co17) t422) := ⟨by (with_reducible repeat (first | apply Kd.R_alloc | apply Kd.R_drewN | apply Kd.R_drew)); exact Kd.R_mono (Kd.R_far (p := ⟨gb437, 2, none⟩) (Kd.R_far (p := ⟨gb437, 1, none⟩) (Kd.R_far (p := ⟨gb437, 0, none⟩) (Kd.R_mono HO_3.out (fun k_ hk => (⟨hk, hk.2⟩ : _ ∧ k_ ≠ gb437))) (fun _ hk => hk.2) (.string t433)) (fun _ hk => hk.2) (.string t434)) (fun _ hk => hk.2) (.string t435)) (fun _ hk => ⟨hk.1.1, hk.1.2⟩)⟩
                    have n1_ : Aside0 (Kd.R k31 31 (((w41.setCell ⟨gb437, 0, none⟩ (.string t433)).setCell ⟨gb437, 1, none⟩ (.string t434)).setCell ⟨gb437, 2, none⟩ (.string t435)) w.heap.size (fun k_ => some k_ ≠ (.slice (some ad431) t422.length co17 : Value).ownBlock ∧ k_ ≠ gb437) v429 t427) := ⟨by (with_reducible repeat (first | apply Kd.R_alloc | apply Kd.R_drewN | apply Kd.R_drew)); exact Kd.R_mono (Kd.R_far (p := ⟨gb437, 2, none⟩) (Kd.R_far (p := ⟨gb437, 1, none⟩) (Kd.R_far (p := ⟨gb437, 0, none⟩) (Kd.R_mono HO_5.out (fun k_ hk => (⟨hk, hk.2⟩ : _ ∧ k_ ≠ gb437))) (fun _ hk => hk.2) (.string t433)) (fun _ hk => hk.2) (.string t434)) (fun _ hk => hk.2) (.string t435)) (fun _ hk => ⟨hk.1.1, hk.1.2⟩)⟩
                    have n2_ : Aside0 ((((w41.setCell ⟨gb437, 0, none⟩ (.string t433)).setCell ⟨gb437, 1, none⟩ (.string t434)).setCell ⟨gb437, 2, none⟩ (.string t435)).heap[gb437]? = some (.cells #[.string t433, .string t434, .string t435] 31 (0, 0))) := ⟨by (with_reducible repeat (first | refine blk_drewN ?_ _ | refine blk_drew ?_ | refine blk_alloc ?_ _)); refine blk_put (cs := #[.string t433, .string t434, .string (⟨#[]⟩ : ByteArray)]) ?_ 2 _ rfl; (with_reducible repeat (first | refine blk_drewN ?_ _ | refine blk_drew ?_ | refine blk_alloc ?_ _)); refine blk_put (cs := #[.string t433, .string (⟨#[]⟩ : ByteArray), .string (⟨#[]⟩ : ByteArray)]) ?_ 1 _ rfl; (with_reducible repeat (first | refine blk_drewN ?_ _ | refine blk_drew ?_ | refine blk_alloc ?_ _)); refine blk_put (cs := #[.string (⟨#[]⟩ : ByteArray), .string (⟨#[]⟩ : ByteArray), .string (⟨#[]⟩ : ByteArray)]) ?_ 0 _ rfl; (with_reducible repeat (first | refine blk_drewN ?_ _ | refine blk_drew ?_ | refine blk_alloc ?_ _)); exact BK437.out⟩
                    have n3_ : Aside0 (Below w.heap.size w (((w41.setCell ⟨gb437, 0, none⟩ (.string t433)).setCell ⟨gb437, 1, none⟩ (.string t434)).setCell ⟨gb437, 2, none⟩ (.string t435))) := ⟨bwS⟩
                    (try clear HO_3)
                    (try clear HO_5)
                    (try clear BK437)
                    (try clear HB)
                    generalize (((w41.setCell ⟨gb437, 0, none⟩ (.string t433)).setCell ⟨gb437, 1, none⟩ (.string t434)).setCell ⟨gb437, 2, none⟩ (.string t435)) = w43 at n0_ n1_ n2_ n3_ ⊢
                    have HO_3 := n0_
                    have HO_5 := n1_
                    have BK437 := n2_
                    have HB := n3_
                    clear n0_ n1_ n2_ n3_
                    have n0_ := Aside0.mk (Kd.R_drew HO_3.out)
                    have n1_ := Aside0.mk (Kd.R_drew HO_5.out)
                    have n2_ := Aside0.mk (blk_drew BK437.out)
                    have n3_ := Aside0.mk (below_drew1 HB.out)
                    clear HO_3
                    clear HO_5
                    clear BK437
                    clear HB
                    have HO_3 := n0_
                    have HO_5 := n1_
                    have BK437 := n2_
                    have HB := n3_
                    clear n0_ n1_ n2_ n3_
                    have p438 : 0 ≤ (x47_3 : Int) := od
                    have q438 : x47_3 < (t422.length : Int) := od
                    obtain ⟨ad438, e438, hx438_0, hx438_1, hx438_2⟩ := at_T31 (Kd.R_reads' HO_3.out).2.2 x47_3 p438 q438
                    obtain rfl : ad431 = ad438 := (by injection e438)
                    replace p438 := eq_true p438
                    replace q438 := eq_true q438
                    obtain ⟨Ao45, co45, eo45⟩ := Kd.R_slice HO_5.out
                    (first | subst eo45 | (injection eo45 with f1_ f2_ f3_; have f4_ := f1_.symm; have f5_ := f3_.symm; clear f1_ f2_ f3_; subst f4_; subst f5_))
                    have p439 : 0 ≤ (x47_3 : Int) := od
                    have q439 : x47_3 < (t427.length : Int) := od
                    obtain ⟨ad439, e439, hx439_0, hx439_1, hx439_2⟩ := at_T31 (Kd.R_reads' HO_5.out).2.2 x47_3 p439 q439
                    cases e439
                    replace p439 := eq_true p439
                    replace q439 := eq_true q439
                    have p440 : 0 ≤ (x47_3 : Int) := od
                    have q440 : x47_3 < (t422.length : Int) := od
                    obtain ⟨ad440, e440, hx440_0, hx440_1, hx440_2⟩ := at_T31 (Kd.R_reads' HO_3.out).2.2 x47_3 p440 q440
                    obtain rfl : ad431 = ad440 := (by injection e440)
                    replace p440 := eq_true p440
                    replace q440 := eq_true q440
                    refine start_ (n := 30) (S := fun w' => w'.cell? ⟨gb437, 0, none⟩ = some (.string t433) ∧ w'.cell? ⟨gb437, 1, none⟩ = some (.string t434) ∧ w'.cell? ⟨gb437, 2, none⟩ = some (.string t435) ∧ w'.cell? (ad431.add ((x47_3).toNat * 3)) = some (.string ((rd_T31 t422 x47_3).f0)) ∧ w'.cell? ⟨(ad431.add ((x47_3).toNat * 3)).block, (ad431.add ((x47_3).toNat * 3)).off + 1, none⟩ = some (.string ((rd_T31 t422 x47_3).f1.f0)) ∧ w'.cell? ⟨(ad431.add ((x47_3).toNat * 3)).block, (ad431.add ((x47_3).toNat * 3)).off + 2, none⟩ = some (.string ((rd_T31 t422 x47_3).f1.f1)) ∧ w'.cell? (ad439.add ((x47_3).toNat * 3)) = some (.string ((rd_T31 t427 x47_3).f0)) ∧ w'.cell? ⟨(ad439.add ((x47_3).toNat * 3)).block, (ad439.add ((x47_3).toNat * 3)).off + 1, none⟩ = some (.string ((rd_T31 t427 x47_3).f1.f0)) ∧ w'.cell? ⟨(ad439.add ((x47_3).toNat * 3)).block, (ad439.add ((x47_3).toNat * 3)).off + 2, none⟩ = some (.string ((rd_T31 t427 x47_3).f1.f1)) ∧ w'.cell? (ad431.add ((x47_3).toNat * 3)) = some (.string ((rd_T31 t422 x47_3).f0)) ∧ w'.cell? ⟨(ad431.add ((x47_3).toNat * 3)).block, (ad431.add ((x47_3).toNat * 3)).off + 1, none⟩ = some (.string ((rd_T31 t422 x47_3).f1.f0)) ∧ w'.cell? ⟨(ad431.add ((x47_3).toNat * 3)).block, (ad431.add ((x47_3).toNat * 3)).off + 2, none⟩ = some (.string ((rd_T31 t422 x47_3).f1.f1))) (ds := []) #[false, false, false, false, false, false, false, false, false, false, false, false, false, false, false, false, false, false, false, false, false, false, false, false, false, false, false, false, false, false] (by kernel_rfl) rfl rfl ⟨(blk_cell BK437.out 0).trans rfl, (blk_cell BK437.out 1).trans rfl, (blk_cell BK437.out 2).trans rfl, hx438_0, hx438_1, hx438_2, hx439_0, hx439_1, hx439_2, hx440_0, hx440_1, hx440_2⟩ (fun hHeld => ?_); refine with_tabW bulletinlaw14_MbxBack.tab15 bulletinlaw14_MbxBack.bits15 (fun HT_ HW_ => ?_)
                    generalize w43.drew = w44 at HO_3 HO_5 BK437 HB hx438_0 hx438_1 hx438_2 hx439_0 hx439_1 hx439_2 hx440_0 hx440_1 hx440_2 hHeld ⊢
                    refine pure_ (i := 0) (N := some 59) (v := ?_) (a' := ?_) (bitsL 30 1) rfl rfl (any_of HT_.out (by kernel_rfl)) (fun _ _ _ h => h) (Or.inl ⟨by rfl, ?_⟩) ?_ ?_
                    rotate_left
                    ·intro w'
                     go_simp
                     with_reducible rfl
                    rotate_left
                    ·simp only [Act.put, List.setIfInBounds_toArray, List.set_cons_zero, List.set_cons_succ, i64_w, i32_w]
                     rfl
                    refine pure_ (i := 1) (N := some 60) (v := ?_) (a' := ?_) (bitsL 30 3) rfl rfl (any_of HT_.out (by kernel_rfl)) (fun _ _ _ h => h) (Or.inl ⟨by rfl, ?_⟩) ?_ ?_
                    rotate_left
                    ·intro w'
                     go_simp
                     with_reducible rfl
                    rotate_left
                    ·simp only [Act.put, List.setIfInBounds_toArray, List.set_cons_zero, List.set_cons_succ, i64_w, i32_w]
                     rfl
                    refine pure_ (i := 2) (N := some 61) (v := ?_) (a' := ?_) (bitsL 30 7) rfl rfl (any_of HT_.out (by kernel_rfl)) (fun _ _ _ h => h) (Or.inl ⟨by rfl, ?_⟩) ?_ ?_
                    rotate_left
                    ·intro w'
                     go_simp
                     with_reducible rfl
                    rotate_left
                    ·simp only [Act.put, List.setIfInBounds_toArray, List.set_cons_zero, List.set_cons_succ, i64_w, i32_w]
                     rfl
                    refine pure_ (i := 4) (N := some 63) (v := ?_) (a' := ?_) (bitsL 30 23) rfl rfl (any_of HT_.out (by kernel_rfl)) (fun _ _ _ h => h) (Or.inl ⟨by rfl, ?_⟩) ?_ ?_
                    rotate_left
                    ·intro w'
                     go_simp
                     with_reducible rfl
                    rotate_left
                    ·simp only [Act.put, List.setIfInBounds_toArray, List.set_cons_zero, List.set_cons_succ, i64_w, i32_w]
                     rfl
                    refine pure_ (i := 5) (N := some 64) (v := ?_) (a' := ?_) (bitsL 30 55) rfl rfl (any_of HT_.out (by kernel_rfl)) (fun _ _ _ h => h) (Or.inl ⟨by rfl, ?_⟩) ?_ ?_
                    rotate_left
                    ·intro w'
                     go_simp
                     with_reducible rfl
                    rotate_left
                    ·simp only [Act.put, List.setIfInBounds_toArray, List.set_cons_zero, List.set_cons_succ, i64_w, i32_w]
                     rfl
                    refine pure_ (i := 6) (N := some 65) (v := ?_) (a' := ?_) (bitsL 30 119) rfl rfl (any_of HT_.out (by kernel_rfl)) (fun _ _ _ h => h) (Or.inl ⟨by rfl, ?_⟩) ?_ ?_
                    rotate_left
                    ·intro w'
                     go_simp
                     with_reducible rfl
                    rotate_left
                    ·simp only [Act.put, List.setIfInBounds_toArray, List.set_cons_zero, List.set_cons_succ, i64_w, i32_w]
                     rfl
                    refine take_ (i := 3) (N := some 62) (v := ?_) (a' := ?_) (bitsL 30 127) rfl rfl (take_ofW HT_.out HW_.out (by kernel_rfl)) (fun _ _ _ h => h) (Or.inl ⟨by rfl, ?_⟩) hHeld ?_ ?_
                    rotate_left
                    ·rintro w' ⟨s0, s1, s2, s3, s4, s5, s6, s7, s8, s9, s10, s11⟩
                     go_simp
                     with_reducible rfl
                    rotate_left
                    ·simp only [Act.put, List.setIfInBounds_toArray, List.set_cons_zero, List.set_cons_succ, i64_w, i32_w]
                     rfl
                    refine take_ (i := 7) (N := some 66) (v := ?_) (a' := ?_) (bitsL 30 255) rfl rfl (take_ofW HT_.out HW_.out (by kernel_rfl)) (fun _ _ _ h => h) (Or.inl ⟨by rfl, ?_⟩) hHeld ?_ ?_
                    rotate_left
                    ·rintro w' ⟨s0, s1, s2, s3, s4, s5, s6, s7, s8, s9, s10, s11⟩
                     go_simp
                     with_reducible rfl
                    rotate_left
                    ·simp only [Act.put, List.setIfInBounds_toArray, List.set_cons_zero, List.set_cons_succ, i64_w, i32_w]
                     rfl
                    refine pure_ (i := 8) (N := some 67) (v := ?_) (a' := ?_) (bitsL 30 511) rfl rfl (any_of HT_.out (by kernel_rfl)) (fun _ _ _ h => h) (Or.inl ⟨by rfl, ?_⟩) ?_ ?_
                    rotate_left
                    ·intro w'
                     go_simp
                     with_reducible rfl
                    rotate_left
                    ·simp only [Act.put, List.setIfInBounds_toArray, List.set_cons_zero, List.set_cons_succ, i64_w, i32_w]
                     rfl
                    refine pure_ (i := 9) (N := some 68) (v := ?_) (a' := ?_) (bitsL 30 1023) rfl rfl (any_of HT_.out (by kernel_rfl)) (fun _ _ _ h => h) (Or.inl ⟨by rfl, ?_⟩) ?_ ?_
                    rotate_left
                    ·intro w'
                     go_simp
                     with_reducible rfl
                    rotate_left
                    ·simp only [Act.put, List.setIfInBounds_toArray, List.set_cons_zero, List.set_cons_succ, i64_w, i32_w]
                     rfl
                    refine pure_ (i := 10) (N := some 69) (v := ?_) (a' := ?_) (bitsL 30 2047) rfl rfl (any_of HT_.out (by kernel_rfl)) (fun _ _ _ h => h) (Or.inl ⟨by rfl, ?_⟩) ?_ ?_
                    rotate_left
                    ·intro w'
                     go_simp
                     with_reducible rfl
                    rotate_left
                    ·simp only [Act.put, List.setIfInBounds_toArray, List.set_cons_zero, List.set_cons_succ, i64_w, i32_w]
                     rfl
                    refine pure_ (i := 11) (N := some 70) (v := ?_) (a' := ?_) (bitsL 30 4095) rfl rfl (any_of HT_.out (by kernel_rfl)) (fun _ _ _ h => h) (Or.inl ⟨by rfl, ?_⟩) ?_ ?_
                    rotate_left
                    ·intro w'
                     go_simp
                     with_reducible rfl
                    rotate_left
                    ·simp only [Act.put, List.setIfInBounds_toArray, List.set_cons_zero, List.set_cons_succ, i64_w, i32_w]
                     rfl
                    refine pure_ (i := 12) (N := some 71) (v := ?_) (a' := ?_) (bitsL 30 8191) rfl rfl (any_of HT_.out (by kernel_rfl)) (fun _ _ _ h => h) (Or.inl ⟨by rfl, ?_⟩) ?_ ?_
                    rotate_left
                    ·intro w'
                     go_simp
                     with_reducible rfl
                    rotate_left
                    ·simp only [Act.put, List.setIfInBounds_toArray, List.set_cons_zero, List.set_cons_succ, i64_w, i32_w]
                     rfl
                    refine pure_ (i := 13) (N := some 72) (v := ?_) (a' := ?_) (bitsL 30 16383) rfl rfl (any_of HT_.out (by kernel_rfl)) (fun _ _ _ h => h) (Or.inl ⟨by rfl, ?_⟩) ?_ ?_
                    rotate_left
                    ·intro w'
                     go_simp
                     with_reducible rfl
                    rotate_left
                    ·simp only [Act.put, List.setIfInBounds_toArray, List.set_cons_zero, List.set_cons_succ, i64_w, i32_w]
                     rfl
                    refine pure_ (i := 15) (N := some 74) (v := ?_) (a' := ?_) (bitsL 30 49151) rfl rfl (any_of HT_.out (by kernel_rfl)) (fun _ _ _ h => h) (Or.inl ⟨by rfl, ?_⟩) ?_ ?_
                    rotate_left
                    ·intro w'
                     go_simp
                     with_reducible rfl
                    rotate_left
                    ·simp only [Act.put, List.setIfInBounds_toArray, List.set_cons_zero, List.set_cons_succ, i64_w, i32_w]
                     rfl
                    refine pure_ (i := 16) (N := some 75) (v := ?_) (a' := ?_) (bitsL 30 114687) rfl rfl (any_of HT_.out (by kernel_rfl)) (fun _ _ _ h => h) (Or.inl ⟨by rfl, ?_⟩) ?_ ?_
                    rotate_left
                    ·intro w'
                     go_simp
                     with_reducible rfl
                    rotate_left
                    ·simp only [Act.put, List.setIfInBounds_toArray, List.set_cons_zero, List.set_cons_succ, i64_w, i32_w]
                     rfl
                    refine pure_ (i := 17) (N := some 76) (v := ?_) (a' := ?_) (bitsL 30 245759) rfl rfl (any_of HT_.out (by kernel_rfl)) (fun _ _ _ h => h) (Or.inl ⟨by rfl, ?_⟩) ?_ ?_
                    rotate_left
                    ·intro w'
                     go_simp
                     with_reducible rfl
                    rotate_left
                    ·simp only [Act.put, List.setIfInBounds_toArray, List.set_cons_zero, List.set_cons_succ, i64_w, i32_w]
                     rfl
                    refine take_ (i := 14) (N := some 73) (v := ?_) (a' := ?_) (bitsL 30 262143) rfl rfl (take_ofW HT_.out HW_.out (by kernel_rfl)) (fun _ _ _ h => h) (Or.inl ⟨by rfl, ?_⟩) hHeld ?_ ?_
                    rotate_left
                    ·rintro w' ⟨s0, s1, s2, s3, s4, s5, s6, s7, s8, s9, s10, s11⟩
                     go_simp
                     with_reducible rfl
                    rotate_left
                    ·simp only [Act.put, List.setIfInBounds_toArray, List.set_cons_zero, List.set_cons_succ, i64_w, i32_w]
                     rfl
                    refine take_ (i := 18) (N := some 77) (v := ?_) (a' := ?_) (bitsL 30 524287) rfl rfl (take_ofW HT_.out HW_.out (by kernel_rfl)) (fun _ _ _ h => h) (Or.inl ⟨by rfl, ?_⟩) hHeld ?_ ?_
                    rotate_left
                    ·rintro w' ⟨s0, s1, s2, s3, s4, s5, s6, s7, s8, s9, s10, s11⟩
                     go_simp
                     with_reducible rfl
                    rotate_left
                    ·simp only [Act.put, List.setIfInBounds_toArray, List.set_cons_zero, List.set_cons_succ, i64_w, i32_w]
                     rfl
                    refine pure_ (i := 19) (N := some 78) (v := ?_) (a' := ?_) (bitsL 30 1048575) rfl rfl (any_of HT_.out (by kernel_rfl)) (fun _ _ _ h => h) (Or.inl ⟨by rfl, ?_⟩) ?_ ?_
                    rotate_left
                    ·intro w'
                     go_simp
                     with_reducible rfl
                    rotate_left
                    ·simp only [Act.put, List.setIfInBounds_toArray, List.set_cons_zero, List.set_cons_succ, i64_w, i32_w]
                     rfl
                    refine pure_ (i := 20) (N := some 79) (v := ?_) (a' := ?_) (bitsL 30 2097151) rfl rfl (any_of HT_.out (by kernel_rfl)) (fun _ _ _ h => h) (Or.inl ⟨by rfl, ?_⟩) ?_ ?_
                    rotate_left
                    ·intro w'
                     go_simp
                     with_reducible rfl
                    rotate_left
                    ·simp only [Act.put, List.setIfInBounds_toArray, List.set_cons_zero, List.set_cons_succ, i64_w, i32_w]
                     rfl
                    refine pure_ (i := 21) (N := some 80) (v := ?_) (a' := ?_) (bitsL 30 4194303) rfl rfl (any_of HT_.out (by kernel_rfl)) (fun _ _ _ h => h) (Or.inl ⟨by rfl, ?_⟩) ?_ ?_
                    rotate_left
                    ·intro w'
                     go_simp
                     with_reducible rfl
                    rotate_left
                    ·simp only [Act.put, List.setIfInBounds_toArray, List.set_cons_zero, List.set_cons_succ, i64_w, i32_w]
                     rfl
                    refine pure_ (i := 22) (N := some 81) (v := undef) (a' := ?_) (bitsL 30 8388607) rfl rfl (any_of HT_.out (by kernel_rfl)) (fun _ _ _ h => h) (Or.inr ⟨by rfl, rfl⟩) ?_ ?_
                    rotate_left
                    ·simp only [Act.put, List.setIfInBounds_toArray, List.set_cons_zero, List.set_cons_succ, i64_w, i32_w]
                     rfl
                    refine pure_ (i := 23) (N := some 82) (v := undef) (a' := ?_) (bitsL 30 16777215) rfl rfl (any_of HT_.out (by kernel_rfl)) (fun _ _ _ h => h) (Or.inr ⟨by rfl, rfl⟩) ?_ ?_
                    rotate_left
                    ·simp only [Act.put, List.setIfInBounds_toArray, List.set_cons_zero, List.set_cons_succ, i64_w, i32_w]
                     rfl
                    refine pure_ (i := 24) (N := some 83) (v := undef) (a' := ?_) (bitsL 30 33554431) rfl rfl (any_of HT_.out (by kernel_rfl)) (fun _ _ _ h => h) (Or.inr ⟨by rfl, rfl⟩) ?_ ?_
                    rotate_left
                    ·simp only [Act.put, List.setIfInBounds_toArray, List.set_cons_zero, List.set_cons_succ, i64_w, i32_w]
                     rfl
                    refine pure_ (i := 25) (N := some 84) (v := undef) (a' := ?_) (bitsL 30 67108863) rfl rfl (any_of HT_.out (by kernel_rfl)) (fun _ _ _ h => h) (Or.inr ⟨by rfl, rfl⟩) ?_ ?_
                    rotate_left
                    ·simp only [Act.put, List.setIfInBounds_toArray, List.set_cons_zero, List.set_cons_succ, i64_w, i32_w]
                     rfl
                    refine pure_ (i := 26) (N := some 85) (v := undef) (a' := ?_) (bitsL 30 134217727) rfl rfl (any_of HT_.out (by kernel_rfl)) (fun _ _ _ h => h) (Or.inr ⟨by rfl, rfl⟩) ?_ ?_
                    rotate_left
                    ·simp only [Act.put, List.setIfInBounds_toArray, List.set_cons_zero, List.set_cons_succ, i64_w, i32_w]
                     rfl
                    refine pure_ (i := 27) (N := some 86) (v := undef) (a' := ?_) (bitsL 30 268435455) rfl rfl (any_of HT_.out (by kernel_rfl)) (fun _ _ _ h => h) (Or.inr ⟨by rfl, rfl⟩) ?_ ?_
                    rotate_left
                    ·simp only [Act.put, List.setIfInBounds_toArray, List.set_cons_zero, List.set_cons_succ, i64_w, i32_w]
                     rfl
                    refine pure_ (i := 28) (N := some 87) (v := undef) (a' := ?_) (bitsL 30 536870911) rfl rfl (any_of HT_.out (by kernel_rfl)) (fun _ _ _ h => h) (Or.inr ⟨by rfl, rfl⟩) ?_ ?_
                    rotate_left
                    ·simp only [Act.put, List.setIfInBounds_toArray, List.set_cons_zero, List.set_cons_succ, i64_w, i32_w]
                     rfl
                    refine pure_ (i := 29) (N := some 88) (v := ?_) (a' := ?_) (bitsL 30 1073741823) rfl rfl (any_of HT_.out (by kernel_rfl)) (fun _ _ _ h => h) (Or.inl ⟨by rfl, ?_⟩) ?_ ?_
                    rotate_left
                    ·intro w'
                     go_simp
                     with_reducible rfl
                    rotate_left
                    ·simp only [Act.put, List.setIfInBounds_toArray, List.set_cons_zero, List.set_cons_succ, i64_w, i32_w]
                     rfl
                    refine done_ (done_of HT_.out (by kernel_rfl)) ?_
                    as_aux_lemma =>
                     try go_wp2
                     go_ret
                     exact ⟨by first | rfl | (simp [errW_none, errW_some] <;> rfl) | (simp [*, errW_none, errW_some] <;> rfl), bwS⟩
                  ·rw [if_neg c38] at H
                   have c38b0 : (!(t433.toList == (((rd_T31 t422 x47_3).f0).toList)) || ((!(t434.toList == (((rd_T31 t422 x47_3).f1.f0).toList)) || (!(t435.toList == (((rd_T31 t422 x47_3).f1.f1).toList)))))) = false := by simpa using c38
                   clear c38
                   replace H := Option.bind_eq_some_iff.mp H
                   obtain ⟨t442, A460, H⟩ := H
                   replace H : (if t442 = true then (bulletinlaw14_MbxBack.l0 k3 t422 t427 (t422.length : Int) (wrap64 (x47_3 + 1))) else (some false)) = some r := H
                   have A46 := Aside0.mk A460
                   clear A460
                   by_cases c47 : t442 = true
                   ·subst c47
                    have H1 : (bulletinlaw14_MbxBack.l0 k3 t422 t427 (t422.length : Int) (wrap64 (x47_3 + 1))) = some r := by rw [if_pos rfl] at H; exact H
                    clear H
                    have H := H1
                    clear H1
                    have H' := Aside0.mk H
                    clear H
                    have p431 : 0 ≤ (x47_3 : Int) := od
                    have q431 : x47_3 < (t422.length : Int) := od
                    obtain ⟨ad431, e431, hx431_0, hx431_1, hx431_2⟩ := at_T31 (Kd.R_reads' HO_3.out).2.2 x47_3 p431 q431
                    cases e431
                    replace p431 := eq_true p431
                    replace q431 := eq_true q431
                    as_aux_lemma =>
                     try go_wp2_with (first | ((with_reducible refine gate_callee (f := 11) rfl ?_); refine goesL_ (some 55) rfl rfl Tryd.func11 (by kernel_rfl) rfl #[.agg #[.string ((rd_T31 t422 x47_3).f0), .string ((rd_T31 t422 x47_3).f1.f0), .string ((rd_T31 t422 x47_3).f1.f1)]] rfl am ?_; (with_reducible refine (mbx_Show.calls k3 ((rd_T31 t422 x47_3).f0) ((rd_T31 t422 x47_3).f1.f0) ((rd_T31 t422 x47_3).f1.f1) t432 _ A26.out).mono ?_); rintro e w48 ⟨rfl, hb⟩; refine ⟨_, rfl, ?_⟩; have n0_ := Aside0.mk (Kd.R_below (by (with_reducible repeat (first | apply Kd.R_alloc | apply Kd.R_drewN | apply Kd.R_drew)); exact HO_3.out) hb); have n1_ := Aside0.mk (Kd.R_below (by (with_reducible repeat (first | apply Kd.R_alloc | apply Kd.R_drewN | apply Kd.R_drew)); exact HO_5.out) hb); have n2_ := Aside0.mk (below_step bw hb); clear HO_3; clear HO_5; clear HB; have HO_3 := n0_; have HO_5 := n1_; have HB := n2_; clear n0_ n1_ n2_; (try clear hb); (try clear hb2); (try clear hk); (try clear hi)) | ((with_reducible refine gate_callee (f := 19) rfl ?_); refine goesL_ (some 56) rfl rfl Tryd.func19 (by kernel_rfl) rfl #[.string t432] rfl am ?_; (with_reducible refine (mbx_One.calls (hG := by first | exact hG | exact Glob.below hG (by first | exact HB.out | (repeat (first | (with_reducible first | exact HB.out | apply below_alloc | apply pw_below_drewN | apply below_drew1 | refine below_set ?_ GE437.out) | exact HB.out))) | exact Glob.drawn hG (by repeat (first | exact Drawn0.refl _ | apply Drawn0.step))) t432 t433 t434 t435 t436 _ A27.out).mono ?_); rintro e w49 ⟨rfl, hb⟩; refine ⟨_, rfl, ?_⟩; have n0_ := Aside0.mk (Kd.R_below (by (with_reducible repeat (first | apply Kd.R_alloc | apply Kd.R_drewN | apply Kd.R_drew)); exact HO_3.out) hb); have n1_ := Aside0.mk (Kd.R_below (by (with_reducible repeat (first | apply Kd.R_alloc | apply Kd.R_drewN | apply Kd.R_drew)); exact HO_5.out) hb); have n2_ := Aside0.mk (below_step bw hb); clear HO_3; clear HO_5; clear HB; have HO_3 := n0_; have HO_5 := n1_; have HB := n2_; clear n0_ n1_ n2_; (try clear hb); (try clear hb2); (try clear hk); (try clear hi)) | ((with_reducible refine gate_dst (N := 8) rfl ?_); (try (refine gate_guard (by rfl) ?_; dsimp only)); refine box_event ?hg (N := 8) ?hd (cs := #[.string (⟨#[]⟩ : ByteArray), .string (⟨#[]⟩ : ByteArray), .string (⟨#[]⟩ : ByteArray)]) (t := 31) ?hr ?_; (case hd => rfl); (case hg => rfl); (case hr => first | (go_simp; done) | (go_simp; rfl)); intro gb437 hg w50 hbox hb; have n0_ := Aside0.mk (Kd.R_below (Kd.R_elderB (by (with_reducible repeat (first | apply Kd.R_alloc | apply Kd.R_drewN | apply Kd.R_drew)); exact HO_3.out) gb437 (Nat.le_of_eq hg.symm)) hb); have n1_ := Aside0.mk (Kd.R_below (Kd.R_elderB (by (with_reducible repeat (first | apply Kd.R_alloc | apply Kd.R_drewN | apply Kd.R_drew)); exact HO_5.out) gb437 (Nat.le_of_eq hg.symm)) hb); have n2_ := Aside0.mk (below_step bw hb); have n3_ := Aside0.mk (hbox); have n4_ := Aside0.mk ((by rw [hg]; exact (below_size bw) : w.heap.size ≤ gb437)); have n5_ := Aside0.mk ((by rw [hg]; exact (below_size bw) : w.heap.size ≤ gb437)); clear HO_3; clear HO_5; clear HB; have HO_3 := n0_; have HO_5 := n1_; have HB := n2_; have BK437 := n3_; have GW437 := n4_; have GE437 := n5_; clear n0_ n1_ n2_ n3_ n4_ n5_; clear hb hbox hg; have hcz51_0 : w50.cell? ⟨gb437, 0, none⟩ = some (.string (⟨#[]⟩ : ByteArray)) := (blk_cell BK437.out 0).trans rfl; have hcz51_1 : w50.cell? ⟨gb437, 1, none⟩ = some (.string (⟨#[]⟩ : ByteArray)) := (blk_cell BK437.out 1).trans rfl; have hcz51_2 : w50.cell? ⟨gb437, 2, none⟩ = some (.string (⟨#[]⟩ : ByteArray)) := (blk_cell BK437.out 2).trans rfl; have hfz51_0 := blk_frozen BK437.out 0; have hfz51_1 := blk_frozen BK437.out 1; have hfz51_2 := blk_frozen BK437.out 2))
                     have n0_ : Aside0 (Kd.R k31 31 (((w50.setCell ⟨gb437, 0, none⟩ (.string t433)).setCell ⟨gb437, 1, none⟩ (.string t434)).setCell ⟨gb437, 2, none⟩ (.string t435)) w.heap.size (fun k_ => some k_ ≠ (v429 : Value).ownBlock ∧ k_ ≠ gb437) (.slice (some ad431) t422.length co17) t422) := ⟨by (with_reducible repeat (first | apply Kd.R_alloc | apply Kd.R_drewN | apply Kd.R_drew)); exact Kd.R_mono (Kd.R_far (p := ⟨gb437, 2, none⟩) (Kd.R_far (p := ⟨gb437, 1, none⟩) (Kd.R_far (p := ⟨gb437, 0, none⟩) (Kd.R_mono HO_3.out (fun k_ hk => (⟨hk, hk.2⟩ : _ ∧ k_ ≠ gb437))) (fun _ hk => hk.2) (.string t433)) (fun _ hk => hk.2) (.string t434)) (fun _ hk => hk.2) (.string t435)) (fun _ hk => ⟨hk.1.1, hk.1.2⟩)⟩
                     have n1_ : Aside0 (Kd.R k31 31 (((w50.setCell ⟨gb437, 0, none⟩ (.string t433)).setCell ⟨gb437, 1, none⟩ (.string t434)).setCell ⟨gb437, 2, none⟩ (.string t435)) w.heap.size (fun k_ => some k_ ≠ (.slice (some ad431) t422.length co17 : Value).ownBlock ∧ k_ ≠ gb437) v429 t427) := ⟨by (with_reducible repeat (first | apply Kd.R_alloc | apply Kd.R_drewN | apply Kd.R_drew)); exact Kd.R_mono (Kd.R_far (p := ⟨gb437, 2, none⟩) (Kd.R_far (p := ⟨gb437, 1, none⟩) (Kd.R_far (p := ⟨gb437, 0, none⟩) (Kd.R_mono HO_5.out (fun k_ hk => (⟨hk, hk.2⟩ : _ ∧ k_ ≠ gb437))) (fun _ hk => hk.2) (.string t433)) (fun _ hk => hk.2) (.string t434)) (fun _ hk => hk.2) (.string t435)) (fun _ hk => ⟨hk.1.1, hk.1.2⟩)⟩
                     have n2_ : Aside0 ((((w50.setCell ⟨gb437, 0, none⟩ (.string t433)).setCell ⟨gb437, 1, none⟩ (.string t434)).setCell ⟨gb437, 2, none⟩ (.string t435)).heap[gb437]? = some (.cells #[.string t433, .string t434, .string t435] 31 (0, 0))) := ⟨by (with_reducible repeat (first | refine blk_drewN ?_ _ | refine blk_drew ?_ | refine blk_alloc ?_ _)); refine blk_put (cs := #[.string t433, .string t434, .string (⟨#[]⟩ : ByteArray)]) ?_ 2 _ rfl; (with_reducible repeat (first | refine blk_drewN ?_ _ | refine blk_drew ?_ | refine blk_alloc ?_ _)); refine blk_put (cs := #[.string t433, .string (⟨#[]⟩ : ByteArray), .string (⟨#[]⟩ : ByteArray)]) ?_ 1 _ rfl; (with_reducible repeat (first | refine blk_drewN ?_ _ | refine blk_drew ?_ | refine blk_alloc ?_ _)); refine blk_put (cs := #[.string (⟨#[]⟩ : ByteArray), .string (⟨#[]⟩ : ByteArray), .string (⟨#[]⟩ : ByteArray)]) ?_ 0 _ rfl; (with_reducible repeat (first | refine blk_drewN ?_ _ | refine blk_drew ?_ | refine blk_alloc ?_ _)); exact BK437.out⟩
                     have n3_ : Aside0 (Below w.heap.size w (((w50.setCell ⟨gb437, 0, none⟩ (.string t433)).setCell ⟨gb437, 1, none⟩ (.string t434)).setCell ⟨gb437, 2, none⟩ (.string t435))) := ⟨bwS⟩
                     (try clear HO_3)
                     (try clear HO_5)
                     (try clear BK437)
                     (try clear HB)
                     generalize (((w50.setCell ⟨gb437, 0, none⟩ (.string t433)).setCell ⟨gb437, 1, none⟩ (.string t434)).setCell ⟨gb437, 2, none⟩ (.string t435)) = w52 at n0_ n1_ n2_ n3_ ⊢
                     have HO_3 := n0_
                     have HO_5 := n1_
                     have BK437 := n2_
                     have HB := n3_
                     clear n0_ n1_ n2_ n3_
                     have n0_ := Aside0.mk (Kd.R_drew HO_3.out)
                     have n1_ := Aside0.mk (Kd.R_drew HO_5.out)
                     have n2_ := Aside0.mk (blk_drew BK437.out)
                     have n3_ := Aside0.mk (below_drew1 HB.out)
                     clear HO_3
                     clear HO_5
                     clear BK437
                     clear HB
                     have HO_3 := n0_
                     have HO_5 := n1_
                     have BK437 := n2_
                     have HB := n3_
                     clear n0_ n1_ n2_ n3_
                     have p438 : 0 ≤ (x47_3 : Int) := od
                     have q438 : x47_3 < (t422.length : Int) := od
                     obtain ⟨ad438, e438, hx438_0, hx438_1, hx438_2⟩ := at_T31 (Kd.R_reads' HO_3.out).2.2 x47_3 p438 q438
                     obtain rfl : ad431 = ad438 := (by injection e438)
                     replace p438 := eq_true p438
                     replace q438 := eq_true q438
                     obtain ⟨Ao54, co54, eo54⟩ := Kd.R_slice HO_5.out
                     (first | subst eo54 | (injection eo54 with f1_ f2_ f3_; have f4_ := f1_.symm; have f5_ := f3_.symm; clear f1_ f2_ f3_; subst f4_; subst f5_))
                     have p439 : 0 ≤ (x47_3 : Int) := od
                     have q439 : x47_3 < (t427.length : Int) := od
                     obtain ⟨ad439, e439, hx439_0, hx439_1, hx439_2⟩ := at_T31 (Kd.R_reads' HO_5.out).2.2 x47_3 p439 q439
                     cases e439
                     replace p439 := eq_true p439
                     replace q439 := eq_true q439
                     have p440 : 0 ≤ (x47_3 : Int) := od
                     have q440 : x47_3 < (t422.length : Int) := od
                     obtain ⟨ad440, e440, hx440_0, hx440_1, hx440_2⟩ := at_T31 (Kd.R_reads' HO_3.out).2.2 x47_3 p440 q440
                     obtain rfl : ad431 = ad440 := (by injection e440)
                     replace p440 := eq_true p440
                     replace q440 := eq_true q440
                     have p441 : 0 ≤ (x47_3 : Int) := od
                     have q441 : x47_3 < (t422.length : Int) := od
                     obtain ⟨ad441, e441, hx441_0, hx441_1, hx441_2⟩ := at_T31 (Kd.R_reads' HO_3.out).2.2 x47_3 p441 q441
                     obtain rfl : ad431 = ad441 := (by injection e441)
                     replace p441 := eq_true p441
                     replace q441 := eq_true q441
                     refine start_ (n := 30) (S := fun w' => w'.cell? ⟨gb437, 0, none⟩ = some (.string t433) ∧ w'.cell? ⟨gb437, 1, none⟩ = some (.string t434) ∧ w'.cell? ⟨gb437, 2, none⟩ = some (.string t435) ∧ w'.cell? (ad431.add ((x47_3).toNat * 3)) = some (.string ((rd_T31 t422 x47_3).f0)) ∧ w'.cell? ⟨(ad431.add ((x47_3).toNat * 3)).block, (ad431.add ((x47_3).toNat * 3)).off + 1, none⟩ = some (.string ((rd_T31 t422 x47_3).f1.f0)) ∧ w'.cell? ⟨(ad431.add ((x47_3).toNat * 3)).block, (ad431.add ((x47_3).toNat * 3)).off + 2, none⟩ = some (.string ((rd_T31 t422 x47_3).f1.f1)) ∧ w'.cell? (ad439.add ((x47_3).toNat * 3)) = some (.string ((rd_T31 t427 x47_3).f0)) ∧ w'.cell? ⟨(ad439.add ((x47_3).toNat * 3)).block, (ad439.add ((x47_3).toNat * 3)).off + 1, none⟩ = some (.string ((rd_T31 t427 x47_3).f1.f0)) ∧ w'.cell? ⟨(ad439.add ((x47_3).toNat * 3)).block, (ad439.add ((x47_3).toNat * 3)).off + 2, none⟩ = some (.string ((rd_T31 t427 x47_3).f1.f1)) ∧ w'.cell? (ad431.add ((x47_3).toNat * 3)) = some (.string ((rd_T31 t422 x47_3).f0)) ∧ w'.cell? ⟨(ad431.add ((x47_3).toNat * 3)).block, (ad431.add ((x47_3).toNat * 3)).off + 1, none⟩ = some (.string ((rd_T31 t422 x47_3).f1.f0)) ∧ w'.cell? ⟨(ad431.add ((x47_3).toNat * 3)).block, (ad431.add ((x47_3).toNat * 3)).off + 2, none⟩ = some (.string ((rd_T31 t422 x47_3).f1.f1)) ∧ w'.cell? (ad431.add ((x47_3).toNat * 3)) = some (.string ((rd_T31 t422 x47_3).f0)) ∧ w'.cell? ⟨(ad431.add ((x47_3).toNat * 3)).block, (ad431.add ((x47_3).toNat * 3)).off + 1, none⟩ = some (.string ((rd_T31 t422 x47_3).f1.f0)) ∧ w'.cell? ⟨(ad431.add ((x47_3).toNat * 3)).block, (ad431.add ((x47_3).toNat * 3)).off + 2, none⟩ = some (.string ((rd_T31 t422 x47_3).f1.f1))) (ds := []) #[false, false, false, false, false, false, false, false, false, false, false, false, false, false, false, false, false, false, false, false, false, false, false, false, false, false, false, false, false, false] (by kernel_rfl) rfl rfl ⟨(blk_cell BK437.out 0).trans rfl, (blk_cell BK437.out 1).trans rfl, (blk_cell BK437.out 2).trans rfl, hx438_0, hx438_1, hx438_2, hx439_0, hx439_1, hx439_2, hx440_0, hx440_1, hx440_2, hx441_0, hx441_1, hx441_2⟩ (fun hHeld => ?_); refine with_tabW bulletinlaw14_MbxBack.tab15 bulletinlaw14_MbxBack.bits15 (fun HT_ HW_ => ?_)
                     generalize w52.drew = w53 at HO_3 HO_5 BK437 HB hx438_0 hx438_1 hx438_2 hx439_0 hx439_1 hx439_2 hx440_0 hx440_1 hx440_2 hx441_0 hx441_1 hx441_2 hHeld ⊢
                     refine pure_ (i := 0) (N := some 59) (v := ?_) (a' := ?_) (bitsL 30 1) rfl rfl (any_of HT_.out (by kernel_rfl)) (fun _ _ _ h => h) (Or.inl ⟨by rfl, ?_⟩) ?_ ?_
                     rotate_left
                     ·intro w'
                      go_simp
                      with_reducible rfl
                     rotate_left
                     ·simp only [Act.put, List.setIfInBounds_toArray, List.set_cons_zero, List.set_cons_succ, i64_w, i32_w]
                      rfl
                     refine pure_ (i := 1) (N := some 60) (v := ?_) (a' := ?_) (bitsL 30 3) rfl rfl (any_of HT_.out (by kernel_rfl)) (fun _ _ _ h => h) (Or.inl ⟨by rfl, ?_⟩) ?_ ?_
                     rotate_left
                     ·intro w'
                      go_simp
                      with_reducible rfl
                     rotate_left
                     ·simp only [Act.put, List.setIfInBounds_toArray, List.set_cons_zero, List.set_cons_succ, i64_w, i32_w]
                      rfl
                     refine pure_ (i := 2) (N := some 61) (v := ?_) (a' := ?_) (bitsL 30 7) rfl rfl (any_of HT_.out (by kernel_rfl)) (fun _ _ _ h => h) (Or.inl ⟨by rfl, ?_⟩) ?_ ?_
                     rotate_left
                     ·intro w'
                      go_simp
                      with_reducible rfl
                     rotate_left
                     ·simp only [Act.put, List.setIfInBounds_toArray, List.set_cons_zero, List.set_cons_succ, i64_w, i32_w]
                      rfl
                     refine pure_ (i := 4) (N := some 63) (v := ?_) (a' := ?_) (bitsL 30 23) rfl rfl (any_of HT_.out (by kernel_rfl)) (fun _ _ _ h => h) (Or.inl ⟨by rfl, ?_⟩) ?_ ?_
                     rotate_left
                     ·intro w'
                      go_simp
                      with_reducible rfl
                     rotate_left
                     ·simp only [Act.put, List.setIfInBounds_toArray, List.set_cons_zero, List.set_cons_succ, i64_w, i32_w]
                      rfl
                     refine pure_ (i := 5) (N := some 64) (v := ?_) (a' := ?_) (bitsL 30 55) rfl rfl (any_of HT_.out (by kernel_rfl)) (fun _ _ _ h => h) (Or.inl ⟨by rfl, ?_⟩) ?_ ?_
                     rotate_left
                     ·intro w'
                      go_simp
                      with_reducible rfl
                     rotate_left
                     ·simp only [Act.put, List.setIfInBounds_toArray, List.set_cons_zero, List.set_cons_succ, i64_w, i32_w]
                      rfl
                     refine pure_ (i := 6) (N := some 65) (v := ?_) (a' := ?_) (bitsL 30 119) rfl rfl (any_of HT_.out (by kernel_rfl)) (fun _ _ _ h => h) (Or.inl ⟨by rfl, ?_⟩) ?_ ?_
                     rotate_left
                     ·intro w'
                      go_simp
                      with_reducible rfl
                     rotate_left
                     ·simp only [Act.put, List.setIfInBounds_toArray, List.set_cons_zero, List.set_cons_succ, i64_w, i32_w]
                      rfl
                     refine take_ (i := 3) (N := some 62) (v := ?_) (a' := ?_) (bitsL 30 127) rfl rfl (take_ofW HT_.out HW_.out (by kernel_rfl)) (fun _ _ _ h => h) (Or.inl ⟨by rfl, ?_⟩) hHeld ?_ ?_
                     rotate_left
                     ·rintro w' ⟨s0, s1, s2, s3, s4, s5, s6, s7, s8, s9, s10, s11, s12, s13, s14⟩
                      go_simp
                      with_reducible rfl
                     rotate_left
                     ·simp only [Act.put, List.setIfInBounds_toArray, List.set_cons_zero, List.set_cons_succ, i64_w, i32_w]
                      rfl
                     refine take_ (i := 7) (N := some 66) (v := ?_) (a' := ?_) (bitsL 30 255) rfl rfl (take_ofW HT_.out HW_.out (by kernel_rfl)) (fun _ _ _ h => h) (Or.inl ⟨by rfl, ?_⟩) hHeld ?_ ?_
                     rotate_left
                     ·rintro w' ⟨s0, s1, s2, s3, s4, s5, s6, s7, s8, s9, s10, s11, s12, s13, s14⟩
                      go_simp
                      with_reducible rfl
                     rotate_left
                     ·simp only [Act.put, List.setIfInBounds_toArray, List.set_cons_zero, List.set_cons_succ, i64_w, i32_w]
                      rfl
                     refine pure_ (i := 8) (N := some 67) (v := ?_) (a' := ?_) (bitsL 30 511) rfl rfl (any_of HT_.out (by kernel_rfl)) (fun _ _ _ h => h) (Or.inl ⟨by rfl, ?_⟩) ?_ ?_
                     rotate_left
                     ·intro w'
                      go_simp
                      with_reducible rfl
                     rotate_left
                     ·simp only [Act.put, List.setIfInBounds_toArray, List.set_cons_zero, List.set_cons_succ, i64_w, i32_w]
                      rfl
                     refine pure_ (i := 9) (N := some 68) (v := ?_) (a' := ?_) (bitsL 30 1023) rfl rfl (any_of HT_.out (by kernel_rfl)) (fun _ _ _ h => h) (Or.inl ⟨by rfl, ?_⟩) ?_ ?_
                     rotate_left
                     ·intro w'
                      go_simp
                      with_reducible rfl
                     rotate_left
                     ·simp only [Act.put, List.setIfInBounds_toArray, List.set_cons_zero, List.set_cons_succ, i64_w, i32_w]
                      rfl
                     refine pure_ (i := 10) (N := some 69) (v := ?_) (a' := ?_) (bitsL 30 2047) rfl rfl (any_of HT_.out (by kernel_rfl)) (fun _ _ _ h => h) (Or.inl ⟨by rfl, ?_⟩) ?_ ?_
                     rotate_left
                     ·intro w'
                      go_simp
                      with_reducible rfl
                     rotate_left
                     ·simp only [Act.put, List.setIfInBounds_toArray, List.set_cons_zero, List.set_cons_succ, i64_w, i32_w]
                      rfl
                     refine pure_ (i := 11) (N := some 70) (v := ?_) (a' := ?_) (bitsL 30 4095) rfl rfl (any_of HT_.out (by kernel_rfl)) (fun _ _ _ h => h) (Or.inl ⟨by rfl, ?_⟩) ?_ ?_
                     rotate_left
                     ·intro w'
                      go_simp
                      with_reducible rfl
                     rotate_left
                     ·simp only [Act.put, List.setIfInBounds_toArray, List.set_cons_zero, List.set_cons_succ, i64_w, i32_w]
                      rfl
                     refine pure_ (i := 12) (N := some 71) (v := ?_) (a' := ?_) (bitsL 30 8191) rfl rfl (any_of HT_.out (by kernel_rfl)) (fun _ _ _ h => h) (Or.inl ⟨by rfl, ?_⟩) ?_ ?_
                     rotate_left
                     ·intro w'
                      go_simp
                      with_reducible rfl
                     rotate_left
                     ·simp only [Act.put, List.setIfInBounds_toArray, List.set_cons_zero, List.set_cons_succ, i64_w, i32_w]
                      rfl
                     refine pure_ (i := 13) (N := some 72) (v := ?_) (a' := ?_) (bitsL 30 16383) rfl rfl (any_of HT_.out (by kernel_rfl)) (fun _ _ _ h => h) (Or.inl ⟨by rfl, ?_⟩) ?_ ?_
                     rotate_left
                     ·intro w'
                      go_simp
                      with_reducible rfl
                     rotate_left
                     ·simp only [Act.put, List.setIfInBounds_toArray, List.set_cons_zero, List.set_cons_succ, i64_w, i32_w]
                      rfl
                     refine pure_ (i := 15) (N := some 74) (v := ?_) (a' := ?_) (bitsL 30 49151) rfl rfl (any_of HT_.out (by kernel_rfl)) (fun _ _ _ h => h) (Or.inl ⟨by rfl, ?_⟩) ?_ ?_
                     rotate_left
                     ·intro w'
                      go_simp
                      with_reducible rfl
                     rotate_left
                     ·simp only [Act.put, List.setIfInBounds_toArray, List.set_cons_zero, List.set_cons_succ, i64_w, i32_w]
                      rfl
                     refine pure_ (i := 16) (N := some 75) (v := ?_) (a' := ?_) (bitsL 30 114687) rfl rfl (any_of HT_.out (by kernel_rfl)) (fun _ _ _ h => h) (Or.inl ⟨by rfl, ?_⟩) ?_ ?_
                     rotate_left
                     ·intro w'
                      go_simp
                      with_reducible rfl
                     rotate_left
                     ·simp only [Act.put, List.setIfInBounds_toArray, List.set_cons_zero, List.set_cons_succ, i64_w, i32_w]
                      rfl
                     refine pure_ (i := 17) (N := some 76) (v := ?_) (a' := ?_) (bitsL 30 245759) rfl rfl (any_of HT_.out (by kernel_rfl)) (fun _ _ _ h => h) (Or.inl ⟨by rfl, ?_⟩) ?_ ?_
                     rotate_left
                     ·intro w'
                      go_simp
                      with_reducible rfl
                     rotate_left
                     ·simp only [Act.put, List.setIfInBounds_toArray, List.set_cons_zero, List.set_cons_succ, i64_w, i32_w]
                      rfl
                     refine take_ (i := 14) (N := some 73) (v := ?_) (a' := ?_) (bitsL 30 262143) rfl rfl (take_ofW HT_.out HW_.out (by kernel_rfl)) (fun _ _ _ h => h) (Or.inl ⟨by rfl, ?_⟩) hHeld ?_ ?_
                     rotate_left
                     ·rintro w' ⟨s0, s1, s2, s3, s4, s5, s6, s7, s8, s9, s10, s11, s12, s13, s14⟩
                      go_simp
                      with_reducible rfl
                     rotate_left
                     ·simp only [Act.put, List.setIfInBounds_toArray, List.set_cons_zero, List.set_cons_succ, i64_w, i32_w]
                      rfl
                     refine take_ (i := 18) (N := some 77) (v := ?_) (a' := ?_) (bitsL 30 524287) rfl rfl (take_ofW HT_.out HW_.out (by kernel_rfl)) (fun _ _ _ h => h) (Or.inl ⟨by rfl, ?_⟩) hHeld ?_ ?_
                     rotate_left
                     ·rintro w' ⟨s0, s1, s2, s3, s4, s5, s6, s7, s8, s9, s10, s11, s12, s13, s14⟩
                      go_simp
                      with_reducible rfl
                     rotate_left
                     ·simp only [Act.put, List.setIfInBounds_toArray, List.set_cons_zero, List.set_cons_succ, i64_w, i32_w]
                      rfl
                     refine pure_ (i := 19) (N := some 78) (v := ?_) (a' := ?_) (bitsL 30 1048575) rfl rfl (any_of HT_.out (by kernel_rfl)) (fun _ _ _ h => h) (Or.inl ⟨by rfl, ?_⟩) ?_ ?_
                     rotate_left
                     ·intro w'
                      go_simp
                      with_reducible rfl
                     rotate_left
                     ·simp only [Act.put, List.setIfInBounds_toArray, List.set_cons_zero, List.set_cons_succ, i64_w, i32_w]
                      rfl
                     refine pure_ (i := 20) (N := some 79) (v := ?_) (a' := ?_) (bitsL 30 2097151) rfl rfl (any_of HT_.out (by kernel_rfl)) (fun _ _ _ h => h) (Or.inl ⟨by rfl, ?_⟩) ?_ ?_
                     rotate_left
                     ·intro w'
                      go_simp
                      with_reducible rfl
                     rotate_left
                     ·simp only [Act.put, List.setIfInBounds_toArray, List.set_cons_zero, List.set_cons_succ, i64_w, i32_w]
                      rfl
                     refine pure_ (i := 21) (N := some 80) (v := ?_) (a' := ?_) (bitsL 30 4194303) rfl rfl (any_of HT_.out (by kernel_rfl)) (fun _ _ _ h => h) (Or.inl ⟨by rfl, ?_⟩) ?_ ?_
                     rotate_left
                     ·intro w'
                      go_simp
                      with_reducible rfl
                     rotate_left
                     ·simp only [Act.put, List.setIfInBounds_toArray, List.set_cons_zero, List.set_cons_succ, i64_w, i32_w]
                      rfl
                     refine pure_ (i := 22) (N := some 81) (v := ?_) (a' := ?_) (bitsL 30 8388607) rfl rfl (any_of HT_.out (by kernel_rfl)) (fun _ _ _ h => h) (Or.inl ⟨by rfl, ?_⟩) ?_ ?_
                     rotate_left
                     ·intro w'
                      go_simp
                      with_reducible rfl
                     rotate_left
                     ·simp only [Act.put, List.setIfInBounds_toArray, List.set_cons_zero, List.set_cons_succ, i64_w, i32_w]
                      rfl
                     refine pure_ (i := 23) (N := some 82) (v := ?_) (a' := ?_) (bitsL 30 16777215) rfl rfl (any_of HT_.out (by kernel_rfl)) (fun _ _ _ h => h) (Or.inl ⟨by rfl, ?_⟩) ?_ ?_
                     rotate_left
                     ·intro w'
                      go_simp
                      with_reducible rfl
                     rotate_left
                     ·simp only [Act.put, List.setIfInBounds_toArray, List.set_cons_zero, List.set_cons_succ, i64_w, i32_w]
                      rfl
                     refine pure_ (i := 24) (N := some 83) (v := ?_) (a' := ?_) (bitsL 30 33554431) rfl rfl (any_of HT_.out (by kernel_rfl)) (fun _ _ _ h => h) (Or.inl ⟨by rfl, ?_⟩) ?_ ?_
                     rotate_left
                     ·intro w'
                      go_simp
                      with_reducible rfl
                     rotate_left
                     ·simp only [Act.put, List.setIfInBounds_toArray, List.set_cons_zero, List.set_cons_succ, i64_w, i32_w]
                      rfl
                     refine pure_ (i := 25) (N := some 84) (v := ?_) (a' := ?_) (bitsL 30 67108863) rfl rfl (any_of HT_.out (by kernel_rfl)) (fun _ _ _ h => h) (Or.inl ⟨by rfl, ?_⟩) ?_ ?_
                     rotate_left
                     ·intro w'
                      go_simp
                      with_reducible rfl
                     rotate_left
                     ·simp only [Act.put, List.setIfInBounds_toArray, List.set_cons_zero, List.set_cons_succ, i64_w, i32_w]
                      rfl
                     refine take_ (i := 26) (N := some 85) (v := ?_) (a' := ?_) (bitsL 30 134217727) rfl rfl (take_ofW HT_.out HW_.out (by kernel_rfl)) (fun _ _ _ h => h) (Or.inl ⟨by rfl, ?_⟩) hHeld ?_ ?_
                     rotate_left
                     ·rintro w' ⟨s0, s1, s2, s3, s4, s5, s6, s7, s8, s9, s10, s11, s12, s13, s14⟩
                      go_simp
                      with_reducible rfl
                     rotate_left
                     ·simp only [Act.put, List.setIfInBounds_toArray, List.set_cons_zero, List.set_cons_succ, i64_w, i32_w]
                      rfl
                     refine one_ (i := 27) (N := some 86) (bitsL 30 268435455) rfl rfl (one_of HT_.out (by kernel_rfl)) (by decide) (fun K hK => ?_)
                     refine goes_ Tryd.func21 (by kernel_rfl) rfl #[.agg #[.string ((rd_T31 t422 x47_3).f1.f0), .string ((rd_T31 t422 x47_3).f1.f1)]] (by rfl) rfl rfl am ?_
                     with_reducible refine (addr_Addr_Right.calls k3 ((rd_T31 t422 x47_3).f1.f0) ((rd_T31 t422 x47_3).f1.f1) true _ A46.out).mono ?_
                     rintro e w55 ⟨rfl, hb⟩
                     have HS3_ := (hb.cell (World.block_lt_of_cell? _ _ (hHeld.2.2.2.1))).trans (hHeld.2.2.2.1)
                     have HS4_ := (hb.cell (World.block_lt_of_cell? _ _ (hHeld.2.2.2.2.1))).trans (hHeld.2.2.2.2.1)
                     have HS5_ := (hb.cell (World.block_lt_of_cell? _ _ (hHeld.2.2.2.2.2.1))).trans (hHeld.2.2.2.2.2.1)
                     have HS6_ := (hb.cell (World.block_lt_of_cell? _ _ (hHeld.2.2.2.2.2.2.1))).trans (hHeld.2.2.2.2.2.2.1)
                     have HS7_ := (hb.cell (World.block_lt_of_cell? _ _ (hHeld.2.2.2.2.2.2.2.1))).trans (hHeld.2.2.2.2.2.2.2.1)
                     have HS8_ := (hb.cell (World.block_lt_of_cell? _ _ (hHeld.2.2.2.2.2.2.2.2.1))).trans (hHeld.2.2.2.2.2.2.2.2.1)
                     have HS9_ := (hb.cell (World.block_lt_of_cell? _ _ (hHeld.2.2.2.2.2.2.2.2.2.1))).trans (hHeld.2.2.2.2.2.2.2.2.2.1)
                     have HS10_ := (hb.cell (World.block_lt_of_cell? _ _ (hHeld.2.2.2.2.2.2.2.2.2.2.1))).trans (hHeld.2.2.2.2.2.2.2.2.2.2.1)
                     have HS11_ := (hb.cell (World.block_lt_of_cell? _ _ (hHeld.2.2.2.2.2.2.2.2.2.2.2.1))).trans (hHeld.2.2.2.2.2.2.2.2.2.2.2.1)
                     have HS12_ := (hb.cell (World.block_lt_of_cell? _ _ (hHeld.2.2.2.2.2.2.2.2.2.2.2.2.1))).trans (hHeld.2.2.2.2.2.2.2.2.2.2.2.2.1)
                     have HS13_ := (hb.cell (World.block_lt_of_cell? _ _ (hHeld.2.2.2.2.2.2.2.2.2.2.2.2.2.1))).trans (hHeld.2.2.2.2.2.2.2.2.2.2.2.2.2.1)
                     have HS14_ := (hb.cell (World.block_lt_of_cell? _ _ (hHeld.2.2.2.2.2.2.2.2.2.2.2.2.2.2))).trans (hHeld.2.2.2.2.2.2.2.2.2.2.2.2.2.2)
                     refine ⟨_, rfl, ?_⟩
                     have n0_ := Aside0.mk (Kd.R_below (by (with_reducible repeat (first | apply Kd.R_alloc | apply Kd.R_drewN | apply Kd.R_drew)); exact HO_3.out) hb)
                     have n1_ := Aside0.mk (Kd.R_below (by (with_reducible repeat (first | apply Kd.R_alloc | apply Kd.R_drewN | apply Kd.R_drew)); exact HO_5.out) hb)
                     have n2_ := Aside0.mk (blk_below (g := gb437) (o := .cells #[.string t433, .string t434, .string t435] 31 (0, 0)) bk hb)
                     have n3_ := Aside0.mk (below_step bwS hb)
                     clear HO_3
                     clear HO_5
                     clear BK437
                     clear HB
                     have HO_3 := n0_
                     have HO_5 := n1_
                     have BK437 := n2_
                     have HB := n3_
                     clear n0_ n1_ n2_ n3_
                     (try clear hb)
                     (try clear hb2)
                     (try clear hk)
                     (try clear hi)
                     refine hK.out _ _ ⟨(blk_cell BK437.out 0).trans rfl, (blk_cell BK437.out 1).trans rfl, (blk_cell BK437.out 2).trans rfl, HS3_, HS4_, HS5_, HS6_, HS7_, HS8_, HS9_, HS10_, HS11_, HS12_, HS13_, HS14_⟩ (fun hHeld => ?_)
                     clear hK K
                     refine norm_ (a' := ?_) ?_ ?_
                     rotate_left
                     ·show Act.put _ (some 86) _ = _
                      simp only [Act.put, List.setIfInBounds_toArray, List.set_cons_zero, List.set_cons_succ, i64_w, i32_w]
                      rfl
                     refine pure_ (i := 28) (N := some 87) (v := ?_) (a' := ?_) (bitsL 30 536870911) rfl rfl (any_of HT_.out (by kernel_rfl)) (fun _ _ _ h => h) (Or.inl ⟨by rfl, ?_⟩) ?_ ?_
                     rotate_left
                     ·intro w'
                      go_simp
                      with_reducible rfl
                     rotate_left
                     ·simp only [Act.put, List.setIfInBounds_toArray, List.set_cons_zero, List.set_cons_succ, i64_w, i32_w]
                      rfl
                     refine pure_ (i := 29) (N := some 88) (v := ?_) (a' := ?_) (bitsL 30 1073741823) rfl rfl (any_of HT_.out (by kernel_rfl)) (fun _ _ _ h => h) (Or.inl ⟨by rfl, ?_⟩) ?_ ?_
                     rotate_left
                     ·intro w'
                      go_simp
                      with_reducible rfl
                     rotate_left
                     ·simp only [Act.put, List.setIfInBounds_toArray, List.set_cons_zero, List.set_cons_succ, i64_w, i32_w]
                      rfl
                     refine done_ (done_of HT_.out (by kernel_rfl)) ?_
                     as_aux_lemma =>
                      try go_wp2
                      go_roundg k3
                      case measure => have := HJ6.out; have := HJ15.out; have := HK3.out; omega
                      case rel => exact ⟨(wrap64 (x47_3 + 1)), cl, H', ⟨by have := HJ6.out; have := HJ15.out; have := HK3.out; omega⟩, ⟨by (with_reducible repeat (first | apply Kd.R_alloc | apply Kd.R_drewN | apply Kd.R_drew)); exact Kd.R_mono HO_3.out (fun _ hk => hk.1)⟩, ⟨by (with_reducible repeat (first | apply Kd.R_alloc | apply Kd.R_drewN | apply Kd.R_drew)); exact Kd.R_mono HO_5.out (fun _ hk => hk.1)⟩, ⟨bwS⟩⟩
                   ·replace c47 := Bool.eq_false_iff.mpr c47
                    subst c47
                    have H1 : (some false) = some r := by rw [if_neg (show ¬ (false = true) by decide)] at H; exact H
                    clear H
                    have H := H1
                    clear H1
                    obtain rfl := Option.some.inj H
                    have p431 : 0 ≤ (x47_3 : Int) := od
                    have q431 : x47_3 < (t422.length : Int) := od
                    obtain ⟨ad431, e431, hx431_0, hx431_1, hx431_2⟩ := at_T31 (Kd.R_reads' HO_3.out).2.2 x47_3 p431 q431
                    cases e431
                    replace p431 := eq_true p431
                    replace q431 := eq_true q431
                    as_aux_lemma =>
                     try go_wp2_with (first | ((with_reducible refine gate_callee (f := 11) rfl ?_); refine goesL_ (some 55) rfl rfl Tryd.func11 (by kernel_rfl) rfl #[.agg #[.string ((rd_T31 t422 x47_3).f0), .string ((rd_T31 t422 x47_3).f1.f0), .string ((rd_T31 t422 x47_3).f1.f1)]] rfl am ?_; (with_reducible refine (mbx_Show.calls k3 ((rd_T31 t422 x47_3).f0) ((rd_T31 t422 x47_3).f1.f0) ((rd_T31 t422 x47_3).f1.f1) t432 _ A26.out).mono ?_); rintro e w56 ⟨rfl, hb⟩; refine ⟨_, rfl, ?_⟩; have n0_ := Aside0.mk (Kd.R_below (by (with_reducible repeat (first | apply Kd.R_alloc | apply Kd.R_drewN | apply Kd.R_drew)); exact HO_3.out) hb); have n1_ := Aside0.mk (Kd.R_below (by (with_reducible repeat (first | apply Kd.R_alloc | apply Kd.R_drewN | apply Kd.R_drew)); exact HO_5.out) hb); have n2_ := Aside0.mk (below_step bw hb); clear HO_3; clear HO_5; clear HB; have HO_3 := n0_; have HO_5 := n1_; have HB := n2_; clear n0_ n1_ n2_; (try clear hb); (try clear hb2); (try clear hk); (try clear hi)) | ((with_reducible refine gate_callee (f := 19) rfl ?_); refine goesL_ (some 56) rfl rfl Tryd.func19 (by kernel_rfl) rfl #[.string t432] rfl am ?_; (with_reducible refine (mbx_One.calls (hG := by first | exact hG | exact Glob.below hG (by first | exact HB.out | (repeat (first | (with_reducible first | exact HB.out | apply below_alloc | apply pw_below_drewN | apply below_drew1 | refine below_set ?_ GE437.out) | exact HB.out))) | exact Glob.drawn hG (by repeat (first | exact Drawn0.refl _ | apply Drawn0.step))) t432 t433 t434 t435 t436 _ A27.out).mono ?_); rintro e w57 ⟨rfl, hb⟩; refine ⟨_, rfl, ?_⟩; have n0_ := Aside0.mk (Kd.R_below (by (with_reducible repeat (first | apply Kd.R_alloc | apply Kd.R_drewN | apply Kd.R_drew)); exact HO_3.out) hb); have n1_ := Aside0.mk (Kd.R_below (by (with_reducible repeat (first | apply Kd.R_alloc | apply Kd.R_drewN | apply Kd.R_drew)); exact HO_5.out) hb); have n2_ := Aside0.mk (below_step bw hb); clear HO_3; clear HO_5; clear HB; have HO_3 := n0_; have HO_5 := n1_; have HB := n2_; clear n0_ n1_ n2_; (try clear hb); (try clear hb2); (try clear hk); (try clear hi)) | ((with_reducible refine gate_dst (N := 8) rfl ?_); (try (refine gate_guard (by rfl) ?_; dsimp only)); refine box_event ?hg (N := 8) ?hd (cs := #[.string (⟨#[]⟩ : ByteArray), .string (⟨#[]⟩ : ByteArray), .string (⟨#[]⟩ : ByteArray)]) (t := 31) ?hr ?_; (case hd => rfl); (case hg => rfl); (case hr => first | (go_simp; done) | (go_simp; rfl)); intro gb437 hg w58 hbox hb; have n0_ := Aside0.mk (Kd.R_below (Kd.R_elderB (by (with_reducible repeat (first | apply Kd.R_alloc | apply Kd.R_drewN | apply Kd.R_drew)); exact HO_3.out) gb437 (Nat.le_of_eq hg.symm)) hb); have n1_ := Aside0.mk (Kd.R_below (Kd.R_elderB (by (with_reducible repeat (first | apply Kd.R_alloc | apply Kd.R_drewN | apply Kd.R_drew)); exact HO_5.out) gb437 (Nat.le_of_eq hg.symm)) hb); have n2_ := Aside0.mk (below_step bw hb); have n3_ := Aside0.mk (hbox); have n4_ := Aside0.mk ((by rw [hg]; exact (below_size bw) : w.heap.size ≤ gb437)); have n5_ := Aside0.mk ((by rw [hg]; exact (below_size bw) : w.heap.size ≤ gb437)); clear HO_3; clear HO_5; clear HB; have HO_3 := n0_; have HO_5 := n1_; have HB := n2_; have BK437 := n3_; have GW437 := n4_; have GE437 := n5_; clear n0_ n1_ n2_ n3_ n4_ n5_; clear hb hbox hg; have hcz59_0 : w58.cell? ⟨gb437, 0, none⟩ = some (.string (⟨#[]⟩ : ByteArray)) := (blk_cell BK437.out 0).trans rfl; have hcz59_1 : w58.cell? ⟨gb437, 1, none⟩ = some (.string (⟨#[]⟩ : ByteArray)) := (blk_cell BK437.out 1).trans rfl; have hcz59_2 : w58.cell? ⟨gb437, 2, none⟩ = some (.string (⟨#[]⟩ : ByteArray)) := (blk_cell BK437.out 2).trans rfl; have hfz59_0 := blk_frozen BK437.out 0; have hfz59_1 := blk_frozen BK437.out 1; have hfz59_2 := blk_frozen BK437.out 2))
                     have n0_ : Aside0 (Kd.R k31 31 (((w58.setCell ⟨gb437, 0, none⟩ (.string t433)).setCell ⟨gb437, 1, none⟩ (.string t434)).setCell ⟨gb437, 2, none⟩ (.string t435)) w.heap.size (fun k_ => some k_ ≠ (v429 : Value).ownBlock ∧ k_ ≠ gb437) (.slice (some ad431) t422.length co17) t422) := ⟨by (with_reducible repeat (first | apply Kd.R_alloc | apply Kd.R_drewN | apply Kd.R_drew)); exact Kd.R_mono (Kd.R_far (p := ⟨gb437, 2, none⟩) (Kd.R_far (p := ⟨gb437, 1, none⟩) (Kd.R_far (p := ⟨gb437, 0, none⟩) (Kd.R_mono HO_3.out (fun k_ hk => (⟨hk, hk.2⟩ : _ ∧ k_ ≠ gb437))) (fun _ hk => hk.2) (.string t433)) (fun _ hk => hk.2) (.string t434)) (fun _ hk => hk.2) (.string t435)) (fun _ hk => ⟨hk.1.1, hk.1.2⟩)⟩
                     have n1_ : Aside0 (Kd.R k31 31 (((w58.setCell ⟨gb437, 0, none⟩ (.string t433)).setCell ⟨gb437, 1, none⟩ (.string t434)).setCell ⟨gb437, 2, none⟩ (.string t435)) w.heap.size (fun k_ => some k_ ≠ (.slice (some ad431) t422.length co17 : Value).ownBlock ∧ k_ ≠ gb437) v429 t427) := ⟨by (with_reducible repeat (first | apply Kd.R_alloc | apply Kd.R_drewN | apply Kd.R_drew)); exact Kd.R_mono (Kd.R_far (p := ⟨gb437, 2, none⟩) (Kd.R_far (p := ⟨gb437, 1, none⟩) (Kd.R_far (p := ⟨gb437, 0, none⟩) (Kd.R_mono HO_5.out (fun k_ hk => (⟨hk, hk.2⟩ : _ ∧ k_ ≠ gb437))) (fun _ hk => hk.2) (.string t433)) (fun _ hk => hk.2) (.string t434)) (fun _ hk => hk.2) (.string t435)) (fun _ hk => ⟨hk.1.1, hk.1.2⟩)⟩
                     have n2_ : Aside0 ((((w58.setCell ⟨gb437, 0, none⟩ (.string t433)).setCell ⟨gb437, 1, none⟩ (.string t434)).setCell ⟨gb437, 2, none⟩ (.string t435)).heap[gb437]? = some (.cells #[.string t433, .string t434, .string t435] 31 (0, 0))) := ⟨by (with_reducible repeat (first | refine blk_drewN ?_ _ | refine blk_drew ?_ | refine blk_alloc ?_ _)); refine blk_put (cs := #[.string t433, .string t434, .string (⟨#[]⟩ : ByteArray)]) ?_ 2 _ rfl; (with_reducible repeat (first | refine blk_drewN ?_ _ | refine blk_drew ?_ | refine blk_alloc ?_ _)); refine blk_put (cs := #[.string t433, .string (⟨#[]⟩ : ByteArray), .string (⟨#[]⟩ : ByteArray)]) ?_ 1 _ rfl; (with_reducible repeat (first | refine blk_drewN ?_ _ | refine blk_drew ?_ | refine blk_alloc ?_ _)); refine blk_put (cs := #[.string (⟨#[]⟩ : ByteArray), .string (⟨#[]⟩ : ByteArray), .string (⟨#[]⟩ : ByteArray)]) ?_ 0 _ rfl; (with_reducible repeat (first | refine blk_drewN ?_ _ | refine blk_drew ?_ | refine blk_alloc ?_ _)); exact BK437.out⟩
                     have n3_ : Aside0 (Below w.heap.size w (((w58.setCell ⟨gb437, 0, none⟩ (.string t433)).setCell ⟨gb437, 1, none⟩ (.string t434)).setCell ⟨gb437, 2, none⟩ (.string t435))) := ⟨bwS⟩
                     (try clear HO_3)
                     (try clear HO_5)
                     (try clear BK437)
                     (try clear HB)
                     generalize (((w58.setCell ⟨gb437, 0, none⟩ (.string t433)).setCell ⟨gb437, 1, none⟩ (.string t434)).setCell ⟨gb437, 2, none⟩ (.string t435)) = w60 at n0_ n1_ n2_ n3_ ⊢
                     have HO_3 := n0_
                     have HO_5 := n1_
                     have BK437 := n2_
                     have HB := n3_
                     clear n0_ n1_ n2_ n3_
                     have n0_ := Aside0.mk (Kd.R_drew HO_3.out)
                     have n1_ := Aside0.mk (Kd.R_drew HO_5.out)
                     have n2_ := Aside0.mk (blk_drew BK437.out)
                     have n3_ := Aside0.mk (below_drew1 HB.out)
                     clear HO_3
                     clear HO_5
                     clear BK437
                     clear HB
                     have HO_3 := n0_
                     have HO_5 := n1_
                     have BK437 := n2_
                     have HB := n3_
                     clear n0_ n1_ n2_ n3_
                     have p438 : 0 ≤ (x47_3 : Int) := od
                     have q438 : x47_3 < (t422.length : Int) := od
                     obtain ⟨ad438, e438, hx438_0, hx438_1, hx438_2⟩ := at_T31 (Kd.R_reads' HO_3.out).2.2 x47_3 p438 q438
                     obtain rfl : ad431 = ad438 := (by injection e438)
                     replace p438 := eq_true p438
                     replace q438 := eq_true q438
                     obtain ⟨Ao62, co62, eo62⟩ := Kd.R_slice HO_5.out
                     (first | subst eo62 | (injection eo62 with f1_ f2_ f3_; have f4_ := f1_.symm; have f5_ := f3_.symm; clear f1_ f2_ f3_; subst f4_; subst f5_))
                     have p439 : 0 ≤ (x47_3 : Int) := od
                     have q439 : x47_3 < (t427.length : Int) := od
                     obtain ⟨ad439, e439, hx439_0, hx439_1, hx439_2⟩ := at_T31 (Kd.R_reads' HO_5.out).2.2 x47_3 p439 q439
                     cases e439
                     replace p439 := eq_true p439
                     replace q439 := eq_true q439
                     have p440 : 0 ≤ (x47_3 : Int) := od
                     have q440 : x47_3 < (t422.length : Int) := od
                     obtain ⟨ad440, e440, hx440_0, hx440_1, hx440_2⟩ := at_T31 (Kd.R_reads' HO_3.out).2.2 x47_3 p440 q440
                     obtain rfl : ad431 = ad440 := (by injection e440)
                     replace p440 := eq_true p440
                     replace q440 := eq_true q440
                     have p441 : 0 ≤ (x47_3 : Int) := od
                     have q441 : x47_3 < (t422.length : Int) := od
                     obtain ⟨ad441, e441, hx441_0, hx441_1, hx441_2⟩ := at_T31 (Kd.R_reads' HO_3.out).2.2 x47_3 p441 q441
                     obtain rfl : ad431 = ad441 := (by injection e441)
                     replace p441 := eq_true p441
                     replace q441 := eq_true q441
                     refine start_ (n := 30) (S := fun w' => w'.cell? ⟨gb437, 0, none⟩ = some (.string t433) ∧ w'.cell? ⟨gb437, 1, none⟩ = some (.string t434) ∧ w'.cell? ⟨gb437, 2, none⟩ = some (.string t435) ∧ w'.cell? (ad431.add ((x47_3).toNat * 3)) = some (.string ((rd_T31 t422 x47_3).f0)) ∧ w'.cell? ⟨(ad431.add ((x47_3).toNat * 3)).block, (ad431.add ((x47_3).toNat * 3)).off + 1, none⟩ = some (.string ((rd_T31 t422 x47_3).f1.f0)) ∧ w'.cell? ⟨(ad431.add ((x47_3).toNat * 3)).block, (ad431.add ((x47_3).toNat * 3)).off + 2, none⟩ = some (.string ((rd_T31 t422 x47_3).f1.f1)) ∧ w'.cell? (ad439.add ((x47_3).toNat * 3)) = some (.string ((rd_T31 t427 x47_3).f0)) ∧ w'.cell? ⟨(ad439.add ((x47_3).toNat * 3)).block, (ad439.add ((x47_3).toNat * 3)).off + 1, none⟩ = some (.string ((rd_T31 t427 x47_3).f1.f0)) ∧ w'.cell? ⟨(ad439.add ((x47_3).toNat * 3)).block, (ad439.add ((x47_3).toNat * 3)).off + 2, none⟩ = some (.string ((rd_T31 t427 x47_3).f1.f1)) ∧ w'.cell? (ad431.add ((x47_3).toNat * 3)) = some (.string ((rd_T31 t422 x47_3).f0)) ∧ w'.cell? ⟨(ad431.add ((x47_3).toNat * 3)).block, (ad431.add ((x47_3).toNat * 3)).off + 1, none⟩ = some (.string ((rd_T31 t422 x47_3).f1.f0)) ∧ w'.cell? ⟨(ad431.add ((x47_3).toNat * 3)).block, (ad431.add ((x47_3).toNat * 3)).off + 2, none⟩ = some (.string ((rd_T31 t422 x47_3).f1.f1)) ∧ w'.cell? (ad431.add ((x47_3).toNat * 3)) = some (.string ((rd_T31 t422 x47_3).f0)) ∧ w'.cell? ⟨(ad431.add ((x47_3).toNat * 3)).block, (ad431.add ((x47_3).toNat * 3)).off + 1, none⟩ = some (.string ((rd_T31 t422 x47_3).f1.f0)) ∧ w'.cell? ⟨(ad431.add ((x47_3).toNat * 3)).block, (ad431.add ((x47_3).toNat * 3)).off + 2, none⟩ = some (.string ((rd_T31 t422 x47_3).f1.f1))) (ds := []) #[false, false, false, false, false, false, false, false, false, false, false, false, false, false, false, false, false, false, false, false, false, false, false, false, false, false, false, false, false, false] (by kernel_rfl) rfl rfl ⟨(blk_cell BK437.out 0).trans rfl, (blk_cell BK437.out 1).trans rfl, (blk_cell BK437.out 2).trans rfl, hx438_0, hx438_1, hx438_2, hx439_0, hx439_1, hx439_2, hx440_0, hx440_1, hx440_2, hx441_0, hx441_1, hx441_2⟩ (fun hHeld => ?_); refine with_tabW bulletinlaw14_MbxBack.tab15 bulletinlaw14_MbxBack.bits15 (fun HT_ HW_ => ?_)
                     generalize w60.drew = w61 at HO_3 HO_5 BK437 HB hx438_0 hx438_1 hx438_2 hx439_0 hx439_1 hx439_2 hx440_0 hx440_1 hx440_2 hx441_0 hx441_1 hx441_2 hHeld ⊢
                     refine pure_ (i := 0) (N := some 59) (v := ?_) (a' := ?_) (bitsL 30 1) rfl rfl (any_of HT_.out (by kernel_rfl)) (fun _ _ _ h => h) (Or.inl ⟨by rfl, ?_⟩) ?_ ?_
                     rotate_left
                     ·intro w'
                      go_simp
                      with_reducible rfl
                     rotate_left
                     ·simp only [Act.put, List.setIfInBounds_toArray, List.set_cons_zero, List.set_cons_succ, i64_w, i32_w]
                      rfl
                     refine pure_ (i := 1) (N := some 60) (v := ?_) (a' := ?_) (bitsL 30 3) rfl rfl (any_of HT_.out (by kernel_rfl)) (fun _ _ _ h => h) (Or.inl ⟨by rfl, ?_⟩) ?_ ?_
                     rotate_left
                     ·intro w'
                      go_simp
                      with_reducible rfl
                     rotate_left
                     ·simp only [Act.put, List.setIfInBounds_toArray, List.set_cons_zero, List.set_cons_succ, i64_w, i32_w]
                      rfl
                     refine pure_ (i := 2) (N := some 61) (v := ?_) (a' := ?_) (bitsL 30 7) rfl rfl (any_of HT_.out (by kernel_rfl)) (fun _ _ _ h => h) (Or.inl ⟨by rfl, ?_⟩) ?_ ?_
                     rotate_left
                     ·intro w'
                      go_simp
                      with_reducible rfl
                     rotate_left
                     ·simp only [Act.put, List.setIfInBounds_toArray, List.set_cons_zero, List.set_cons_succ, i64_w, i32_w]
                      rfl
                     refine pure_ (i := 4) (N := some 63) (v := ?_) (a' := ?_) (bitsL 30 23) rfl rfl (any_of HT_.out (by kernel_rfl)) (fun _ _ _ h => h) (Or.inl ⟨by rfl, ?_⟩) ?_ ?_
                     rotate_left
                     ·intro w'
                      go_simp
                      with_reducible rfl
                     rotate_left
                     ·simp only [Act.put, List.setIfInBounds_toArray, List.set_cons_zero, List.set_cons_succ, i64_w, i32_w]
                      rfl
                     refine pure_ (i := 5) (N := some 64) (v := ?_) (a' := ?_) (bitsL 30 55) rfl rfl (any_of HT_.out (by kernel_rfl)) (fun _ _ _ h => h) (Or.inl ⟨by rfl, ?_⟩) ?_ ?_
                     rotate_left
                     ·intro w'
                      go_simp
                      with_reducible rfl
                     rotate_left
                     ·simp only [Act.put, List.setIfInBounds_toArray, List.set_cons_zero, List.set_cons_succ, i64_w, i32_w]
                      rfl
                     refine pure_ (i := 6) (N := some 65) (v := ?_) (a' := ?_) (bitsL 30 119) rfl rfl (any_of HT_.out (by kernel_rfl)) (fun _ _ _ h => h) (Or.inl ⟨by rfl, ?_⟩) ?_ ?_
                     rotate_left
                     ·intro w'
                      go_simp
                      with_reducible rfl
                     rotate_left
                     ·simp only [Act.put, List.setIfInBounds_toArray, List.set_cons_zero, List.set_cons_succ, i64_w, i32_w]
                      rfl
                     refine take_ (i := 3) (N := some 62) (v := ?_) (a' := ?_) (bitsL 30 127) rfl rfl (take_ofW HT_.out HW_.out (by kernel_rfl)) (fun _ _ _ h => h) (Or.inl ⟨by rfl, ?_⟩) hHeld ?_ ?_
                     rotate_left
                     ·rintro w' ⟨s0, s1, s2, s3, s4, s5, s6, s7, s8, s9, s10, s11, s12, s13, s14⟩
                      go_simp
                      with_reducible rfl
                     rotate_left
                     ·simp only [Act.put, List.setIfInBounds_toArray, List.set_cons_zero, List.set_cons_succ, i64_w, i32_w]
                      rfl
                     refine take_ (i := 7) (N := some 66) (v := ?_) (a' := ?_) (bitsL 30 255) rfl rfl (take_ofW HT_.out HW_.out (by kernel_rfl)) (fun _ _ _ h => h) (Or.inl ⟨by rfl, ?_⟩) hHeld ?_ ?_
                     rotate_left
                     ·rintro w' ⟨s0, s1, s2, s3, s4, s5, s6, s7, s8, s9, s10, s11, s12, s13, s14⟩
                      go_simp
                      with_reducible rfl
                     rotate_left
                     ·simp only [Act.put, List.setIfInBounds_toArray, List.set_cons_zero, List.set_cons_succ, i64_w, i32_w]
                      rfl
                     refine pure_ (i := 8) (N := some 67) (v := ?_) (a' := ?_) (bitsL 30 511) rfl rfl (any_of HT_.out (by kernel_rfl)) (fun _ _ _ h => h) (Or.inl ⟨by rfl, ?_⟩) ?_ ?_
                     rotate_left
                     ·intro w'
                      go_simp
                      with_reducible rfl
                     rotate_left
                     ·simp only [Act.put, List.setIfInBounds_toArray, List.set_cons_zero, List.set_cons_succ, i64_w, i32_w]
                      rfl
                     refine pure_ (i := 9) (N := some 68) (v := ?_) (a' := ?_) (bitsL 30 1023) rfl rfl (any_of HT_.out (by kernel_rfl)) (fun _ _ _ h => h) (Or.inl ⟨by rfl, ?_⟩) ?_ ?_
                     rotate_left
                     ·intro w'
                      go_simp
                      with_reducible rfl
                     rotate_left
                     ·simp only [Act.put, List.setIfInBounds_toArray, List.set_cons_zero, List.set_cons_succ, i64_w, i32_w]
                      rfl
                     refine pure_ (i := 10) (N := some 69) (v := ?_) (a' := ?_) (bitsL 30 2047) rfl rfl (any_of HT_.out (by kernel_rfl)) (fun _ _ _ h => h) (Or.inl ⟨by rfl, ?_⟩) ?_ ?_
                     rotate_left
                     ·intro w'
                      go_simp
                      with_reducible rfl
                     rotate_left
                     ·simp only [Act.put, List.setIfInBounds_toArray, List.set_cons_zero, List.set_cons_succ, i64_w, i32_w]
                      rfl
                     refine pure_ (i := 11) (N := some 70) (v := ?_) (a' := ?_) (bitsL 30 4095) rfl rfl (any_of HT_.out (by kernel_rfl)) (fun _ _ _ h => h) (Or.inl ⟨by rfl, ?_⟩) ?_ ?_
                     rotate_left
                     ·intro w'
                      go_simp
                      with_reducible rfl
                     rotate_left
                     ·simp only [Act.put, List.setIfInBounds_toArray, List.set_cons_zero, List.set_cons_succ, i64_w, i32_w]
                      rfl
                     refine pure_ (i := 12) (N := some 71) (v := ?_) (a' := ?_) (bitsL 30 8191) rfl rfl (any_of HT_.out (by kernel_rfl)) (fun _ _ _ h => h) (Or.inl ⟨by rfl, ?_⟩) ?_ ?_
                     rotate_left
                     ·intro w'
                      go_simp
                      with_reducible rfl
                     rotate_left
                     ·simp only [Act.put, List.setIfInBounds_toArray, List.set_cons_zero, List.set_cons_succ, i64_w, i32_w]
                      rfl
                     refine pure_ (i := 13) (N := some 72) (v := ?_) (a' := ?_) (bitsL 30 16383) rfl rfl (any_of HT_.out (by kernel_rfl)) (fun _ _ _ h => h) (Or.inl ⟨by rfl, ?_⟩) ?_ ?_
                     rotate_left
                     ·intro w'
                      go_simp
                      with_reducible rfl
                     rotate_left
                     ·simp only [Act.put, List.setIfInBounds_toArray, List.set_cons_zero, List.set_cons_succ, i64_w, i32_w]
                      rfl
                     refine pure_ (i := 15) (N := some 74) (v := ?_) (a' := ?_) (bitsL 30 49151) rfl rfl (any_of HT_.out (by kernel_rfl)) (fun _ _ _ h => h) (Or.inl ⟨by rfl, ?_⟩) ?_ ?_
                     rotate_left
                     ·intro w'
                      go_simp
                      with_reducible rfl
                     rotate_left
                     ·simp only [Act.put, List.setIfInBounds_toArray, List.set_cons_zero, List.set_cons_succ, i64_w, i32_w]
                      rfl
                     refine pure_ (i := 16) (N := some 75) (v := ?_) (a' := ?_) (bitsL 30 114687) rfl rfl (any_of HT_.out (by kernel_rfl)) (fun _ _ _ h => h) (Or.inl ⟨by rfl, ?_⟩) ?_ ?_
                     rotate_left
                     ·intro w'
                      go_simp
                      with_reducible rfl
                     rotate_left
                     ·simp only [Act.put, List.setIfInBounds_toArray, List.set_cons_zero, List.set_cons_succ, i64_w, i32_w]
                      rfl
                     refine pure_ (i := 17) (N := some 76) (v := ?_) (a' := ?_) (bitsL 30 245759) rfl rfl (any_of HT_.out (by kernel_rfl)) (fun _ _ _ h => h) (Or.inl ⟨by rfl, ?_⟩) ?_ ?_
                     rotate_left
                     ·intro w'
                      go_simp
                      with_reducible rfl
                     rotate_left
                     ·simp only [Act.put, List.setIfInBounds_toArray, List.set_cons_zero, List.set_cons_succ, i64_w, i32_w]
                      rfl
                     refine take_ (i := 14) (N := some 73) (v := ?_) (a' := ?_) (bitsL 30 262143) rfl rfl (take_ofW HT_.out HW_.out (by kernel_rfl)) (fun _ _ _ h => h) (Or.inl ⟨by rfl, ?_⟩) hHeld ?_ ?_
                     rotate_left
                     ·rintro w' ⟨s0, s1, s2, s3, s4, s5, s6, s7, s8, s9, s10, s11, s12, s13, s14⟩
                      go_simp
                      with_reducible rfl
                     rotate_left
                     ·simp only [Act.put, List.setIfInBounds_toArray, List.set_cons_zero, List.set_cons_succ, i64_w, i32_w]
                      rfl
                     refine take_ (i := 18) (N := some 77) (v := ?_) (a' := ?_) (bitsL 30 524287) rfl rfl (take_ofW HT_.out HW_.out (by kernel_rfl)) (fun _ _ _ h => h) (Or.inl ⟨by rfl, ?_⟩) hHeld ?_ ?_
                     rotate_left
                     ·rintro w' ⟨s0, s1, s2, s3, s4, s5, s6, s7, s8, s9, s10, s11, s12, s13, s14⟩
                      go_simp
                      with_reducible rfl
                     rotate_left
                     ·simp only [Act.put, List.setIfInBounds_toArray, List.set_cons_zero, List.set_cons_succ, i64_w, i32_w]
                      rfl
                     refine pure_ (i := 19) (N := some 78) (v := ?_) (a' := ?_) (bitsL 30 1048575) rfl rfl (any_of HT_.out (by kernel_rfl)) (fun _ _ _ h => h) (Or.inl ⟨by rfl, ?_⟩) ?_ ?_
                     rotate_left
                     ·intro w'
                      go_simp
                      with_reducible rfl
                     rotate_left
                     ·simp only [Act.put, List.setIfInBounds_toArray, List.set_cons_zero, List.set_cons_succ, i64_w, i32_w]
                      rfl
                     refine pure_ (i := 20) (N := some 79) (v := ?_) (a' := ?_) (bitsL 30 2097151) rfl rfl (any_of HT_.out (by kernel_rfl)) (fun _ _ _ h => h) (Or.inl ⟨by rfl, ?_⟩) ?_ ?_
                     rotate_left
                     ·intro w'
                      go_simp
                      with_reducible rfl
                     rotate_left
                     ·simp only [Act.put, List.setIfInBounds_toArray, List.set_cons_zero, List.set_cons_succ, i64_w, i32_w]
                      rfl
                     refine pure_ (i := 21) (N := some 80) (v := ?_) (a' := ?_) (bitsL 30 4194303) rfl rfl (any_of HT_.out (by kernel_rfl)) (fun _ _ _ h => h) (Or.inl ⟨by rfl, ?_⟩) ?_ ?_
                     rotate_left
                     ·intro w'
                      go_simp
                      with_reducible rfl
                     rotate_left
                     ·simp only [Act.put, List.setIfInBounds_toArray, List.set_cons_zero, List.set_cons_succ, i64_w, i32_w]
                      rfl
                     refine pure_ (i := 22) (N := some 81) (v := ?_) (a' := ?_) (bitsL 30 8388607) rfl rfl (any_of HT_.out (by kernel_rfl)) (fun _ _ _ h => h) (Or.inl ⟨by rfl, ?_⟩) ?_ ?_
                     rotate_left
                     ·intro w'
                      go_simp
                      with_reducible rfl
                     rotate_left
                     ·simp only [Act.put, List.setIfInBounds_toArray, List.set_cons_zero, List.set_cons_succ, i64_w, i32_w]
                      rfl
                     refine pure_ (i := 23) (N := some 82) (v := ?_) (a' := ?_) (bitsL 30 16777215) rfl rfl (any_of HT_.out (by kernel_rfl)) (fun _ _ _ h => h) (Or.inl ⟨by rfl, ?_⟩) ?_ ?_
                     rotate_left
                     ·intro w'
                      go_simp
                      with_reducible rfl
                     rotate_left
                     ·simp only [Act.put, List.setIfInBounds_toArray, List.set_cons_zero, List.set_cons_succ, i64_w, i32_w]
                      rfl
                     refine pure_ (i := 24) (N := some 83) (v := ?_) (a' := ?_) (bitsL 30 33554431) rfl rfl (any_of HT_.out (by kernel_rfl)) (fun _ _ _ h => h) (Or.inl ⟨by rfl, ?_⟩) ?_ ?_
                     rotate_left
                     ·intro w'
                      go_simp
                      with_reducible rfl
                     rotate_left
                     ·simp only [Act.put, List.setIfInBounds_toArray, List.set_cons_zero, List.set_cons_succ, i64_w, i32_w]
                      rfl
                     refine pure_ (i := 25) (N := some 84) (v := ?_) (a' := ?_) (bitsL 30 67108863) rfl rfl (any_of HT_.out (by kernel_rfl)) (fun _ _ _ h => h) (Or.inl ⟨by rfl, ?_⟩) ?_ ?_
                     rotate_left
                     ·intro w'
                      go_simp
                      with_reducible rfl
                     rotate_left
                     ·simp only [Act.put, List.setIfInBounds_toArray, List.set_cons_zero, List.set_cons_succ, i64_w, i32_w]
                      rfl
                     refine take_ (i := 26) (N := some 85) (v := ?_) (a' := ?_) (bitsL 30 134217727) rfl rfl (take_ofW HT_.out HW_.out (by kernel_rfl)) (fun _ _ _ h => h) (Or.inl ⟨by rfl, ?_⟩) hHeld ?_ ?_
                     rotate_left
                     ·rintro w' ⟨s0, s1, s2, s3, s4, s5, s6, s7, s8, s9, s10, s11, s12, s13, s14⟩
                      go_simp
                      with_reducible rfl
                     rotate_left
                     ·simp only [Act.put, List.setIfInBounds_toArray, List.set_cons_zero, List.set_cons_succ, i64_w, i32_w]
                      rfl
                     refine one_ (i := 27) (N := some 86) (bitsL 30 268435455) rfl rfl (one_of HT_.out (by kernel_rfl)) (by decide) (fun K hK => ?_)
                     refine goes_ Tryd.func21 (by kernel_rfl) rfl #[.agg #[.string ((rd_T31 t422 x47_3).f1.f0), .string ((rd_T31 t422 x47_3).f1.f1)]] (by rfl) rfl rfl am ?_
                     with_reducible refine (addr_Addr_Right.calls k3 ((rd_T31 t422 x47_3).f1.f0) ((rd_T31 t422 x47_3).f1.f1) false _ A46.out).mono ?_
                     rintro e w63 ⟨rfl, hb⟩
                     have HS3_ := (hb.cell (World.block_lt_of_cell? _ _ (hHeld.2.2.2.1))).trans (hHeld.2.2.2.1)
                     have HS4_ := (hb.cell (World.block_lt_of_cell? _ _ (hHeld.2.2.2.2.1))).trans (hHeld.2.2.2.2.1)
                     have HS5_ := (hb.cell (World.block_lt_of_cell? _ _ (hHeld.2.2.2.2.2.1))).trans (hHeld.2.2.2.2.2.1)
                     have HS6_ := (hb.cell (World.block_lt_of_cell? _ _ (hHeld.2.2.2.2.2.2.1))).trans (hHeld.2.2.2.2.2.2.1)
                     have HS7_ := (hb.cell (World.block_lt_of_cell? _ _ (hHeld.2.2.2.2.2.2.2.1))).trans (hHeld.2.2.2.2.2.2.2.1)
                     have HS8_ := (hb.cell (World.block_lt_of_cell? _ _ (hHeld.2.2.2.2.2.2.2.2.1))).trans (hHeld.2.2.2.2.2.2.2.2.1)
                     have HS9_ := (hb.cell (World.block_lt_of_cell? _ _ (hHeld.2.2.2.2.2.2.2.2.2.1))).trans (hHeld.2.2.2.2.2.2.2.2.2.1)
                     have HS10_ := (hb.cell (World.block_lt_of_cell? _ _ (hHeld.2.2.2.2.2.2.2.2.2.2.1))).trans (hHeld.2.2.2.2.2.2.2.2.2.2.1)
                     have HS11_ := (hb.cell (World.block_lt_of_cell? _ _ (hHeld.2.2.2.2.2.2.2.2.2.2.2.1))).trans (hHeld.2.2.2.2.2.2.2.2.2.2.2.1)
                     have HS12_ := (hb.cell (World.block_lt_of_cell? _ _ (hHeld.2.2.2.2.2.2.2.2.2.2.2.2.1))).trans (hHeld.2.2.2.2.2.2.2.2.2.2.2.2.1)
                     have HS13_ := (hb.cell (World.block_lt_of_cell? _ _ (hHeld.2.2.2.2.2.2.2.2.2.2.2.2.2.1))).trans (hHeld.2.2.2.2.2.2.2.2.2.2.2.2.2.1)
                     have HS14_ := (hb.cell (World.block_lt_of_cell? _ _ (hHeld.2.2.2.2.2.2.2.2.2.2.2.2.2.2))).trans (hHeld.2.2.2.2.2.2.2.2.2.2.2.2.2.2)
                     refine ⟨_, rfl, ?_⟩
                     have n0_ := Aside0.mk (Kd.R_below (by (with_reducible repeat (first | apply Kd.R_alloc | apply Kd.R_drewN | apply Kd.R_drew)); exact HO_3.out) hb)
                     have n1_ := Aside0.mk (Kd.R_below (by (with_reducible repeat (first | apply Kd.R_alloc | apply Kd.R_drewN | apply Kd.R_drew)); exact HO_5.out) hb)
                     have n2_ := Aside0.mk (blk_below (g := gb437) (o := .cells #[.string t433, .string t434, .string t435] 31 (0, 0)) bk hb)
                     have n3_ := Aside0.mk (below_step bwS hb)
                     clear HO_3
                     clear HO_5
                     clear BK437
                     clear HB
                     have HO_3 := n0_
                     have HO_5 := n1_
                     have BK437 := n2_
                     have HB := n3_
                     clear n0_ n1_ n2_ n3_
                     (try clear hb)
                     (try clear hb2)
                     (try clear hk)
                     (try clear hi)
                     refine hK.out _ _ ⟨(blk_cell BK437.out 0).trans rfl, (blk_cell BK437.out 1).trans rfl, (blk_cell BK437.out 2).trans rfl, HS3_, HS4_, HS5_, HS6_, HS7_, HS8_, HS9_, HS10_, HS11_, HS12_, HS13_, HS14_⟩ (fun hHeld => ?_)
                     clear hK K
                     refine norm_ (a' := ?_) ?_ ?_
                     rotate_left
                     ·show Act.put _ (some 86) _ = _
                      simp only [Act.put, List.setIfInBounds_toArray, List.set_cons_zero, List.set_cons_succ, i64_w, i32_w]
                      rfl
                     refine pure_ (i := 28) (N := some 87) (v := ?_) (a' := ?_) (bitsL 30 536870911) rfl rfl (any_of HT_.out (by kernel_rfl)) (fun _ _ _ h => h) (Or.inl ⟨by rfl, ?_⟩) ?_ ?_
                     rotate_left
                     ·intro w'
                      go_simp
                      with_reducible rfl
                     rotate_left
                     ·simp only [Act.put, List.setIfInBounds_toArray, List.set_cons_zero, List.set_cons_succ, i64_w, i32_w]
                      rfl
                     refine pure_ (i := 29) (N := some 88) (v := ?_) (a' := ?_) (bitsL 30 1073741823) rfl rfl (any_of HT_.out (by kernel_rfl)) (fun _ _ _ h => h) (Or.inl ⟨by rfl, ?_⟩) ?_ ?_
                     rotate_left
                     ·intro w'
                      go_simp
                      with_reducible rfl
                     rotate_left
                     ·simp only [Act.put, List.setIfInBounds_toArray, List.set_cons_zero, List.set_cons_succ, i64_w, i32_w]
                      rfl
                     refine done_ (done_of HT_.out (by kernel_rfl)) ?_
                     as_aux_lemma =>
                      try go_wp2
                      go_ret
                      exact ⟨by first | rfl | (simp [errW_none, errW_some] <;> rfl) | (simp [*, errW_none, errW_some] <;> rfl), bwS⟩
                 ·rw [if_neg c37] at H
                  have c37b0 : (t436 == 0) = false := beq_eq_false_iff_ne.mpr c37
                  have c37b1 : (t436 != 0) = true := bne_iff_ne.mpr c37
                  obtain rfl := Option.some.inj H
                  have p431 : 0 ≤ (x47_3 : Int) := od
                  have q431 : x47_3 < (t422.length : Int) := od
                  obtain ⟨ad431, e431, hx431_0, hx431_1, hx431_2⟩ := at_T31 (Kd.R_reads' HO_3.out).2.2 x47_3 p431 q431
                  cases e431
                  replace p431 := eq_true p431
                  replace q431 := eq_true q431
                  as_aux_lemma =>
                   try go_wp2_with (first | ((with_reducible refine gate_callee (f := 11) rfl ?_); refine goesL_ (some 55) rfl rfl Tryd.func11 (by kernel_rfl) rfl #[.agg #[.string ((rd_T31 t422 x47_3).f0), .string ((rd_T31 t422 x47_3).f1.f0), .string ((rd_T31 t422 x47_3).f1.f1)]] rfl am ?_; (with_reducible refine (mbx_Show.calls k3 ((rd_T31 t422 x47_3).f0) ((rd_T31 t422 x47_3).f1.f0) ((rd_T31 t422 x47_3).f1.f1) t432 _ A26.out).mono ?_); rintro e w64 ⟨rfl, hb⟩; refine ⟨_, rfl, ?_⟩; have n0_ := Aside0.mk (Kd.R_below (by (with_reducible repeat (first | apply Kd.R_alloc | apply Kd.R_drewN | apply Kd.R_drew)); exact HO_3.out) hb); have n1_ := Aside0.mk (Kd.R_below (by (with_reducible repeat (first | apply Kd.R_alloc | apply Kd.R_drewN | apply Kd.R_drew)); exact HO_5.out) hb); have n2_ := Aside0.mk (below_step bw hb); clear HO_3; clear HO_5; clear HB; have HO_3 := n0_; have HO_5 := n1_; have HB := n2_; clear n0_ n1_ n2_; (try clear hb); (try clear hb2); (try clear hk); (try clear hi)) | ((with_reducible refine gate_callee (f := 19) rfl ?_); refine goesL_ (some 56) rfl rfl Tryd.func19 (by kernel_rfl) rfl #[.string t432] rfl am ?_; (with_reducible refine (mbx_One.calls (hG := by first | exact hG | exact Glob.below hG (by first | exact HB.out | (repeat (first | (with_reducible first | exact HB.out | apply below_alloc | apply pw_below_drewN | apply below_drew1 | refine below_set ?_ GE437.out) | exact HB.out))) | exact Glob.drawn hG (by repeat (first | exact Drawn0.refl _ | apply Drawn0.step))) t432 t433 t434 t435 t436 _ A27.out).mono ?_); rintro e w65 ⟨rfl, hb⟩; refine ⟨_, rfl, ?_⟩; have n0_ := Aside0.mk (Kd.R_below (by (with_reducible repeat (first | apply Kd.R_alloc | apply Kd.R_drewN | apply Kd.R_drew)); exact HO_3.out) hb); have n1_ := Aside0.mk (Kd.R_below (by (with_reducible repeat (first | apply Kd.R_alloc | apply Kd.R_drewN | apply Kd.R_drew)); exact HO_5.out) hb); have n2_ := Aside0.mk (below_step bw hb); clear HO_3; clear HO_5; clear HB; have HO_3 := n0_; have HO_5 := n1_; have HB := n2_; clear n0_ n1_ n2_; (try clear hb); (try clear hb2); (try clear hk); (try clear hi)) | ((with_reducible refine gate_dst (N := 8) rfl ?_); (try (refine gate_guard (by rfl) ?_; dsimp only)); refine box_event ?hg (N := 8) ?hd (cs := #[.string (⟨#[]⟩ : ByteArray), .string (⟨#[]⟩ : ByteArray), .string (⟨#[]⟩ : ByteArray)]) (t := 31) ?hr ?_; (case hd => rfl); (case hg => rfl); (case hr => first | (go_simp; done) | (go_simp; rfl)); intro gb437 hg w66 hbox hb; have n0_ := Aside0.mk (Kd.R_below (Kd.R_elderB (by (with_reducible repeat (first | apply Kd.R_alloc | apply Kd.R_drewN | apply Kd.R_drew)); exact HO_3.out) gb437 (Nat.le_of_eq hg.symm)) hb); have n1_ := Aside0.mk (Kd.R_below (Kd.R_elderB (by (with_reducible repeat (first | apply Kd.R_alloc | apply Kd.R_drewN | apply Kd.R_drew)); exact HO_5.out) gb437 (Nat.le_of_eq hg.symm)) hb); have n2_ := Aside0.mk (below_step bw hb); have n3_ := Aside0.mk (hbox); have n4_ := Aside0.mk ((by rw [hg]; exact (below_size bw) : w.heap.size ≤ gb437)); have n5_ := Aside0.mk ((by rw [hg]; exact (below_size bw) : w.heap.size ≤ gb437)); clear HO_3; clear HO_5; clear HB; have HO_3 := n0_; have HO_5 := n1_; have HB := n2_; have BK437 := n3_; have GW437 := n4_; have GE437 := n5_; clear n0_ n1_ n2_ n3_ n4_ n5_; clear hb hbox hg; have hcz67_0 : w66.cell? ⟨gb437, 0, none⟩ = some (.string (⟨#[]⟩ : ByteArray)) := (blk_cell BK437.out 0).trans rfl; have hcz67_1 : w66.cell? ⟨gb437, 1, none⟩ = some (.string (⟨#[]⟩ : ByteArray)) := (blk_cell BK437.out 1).trans rfl; have hcz67_2 : w66.cell? ⟨gb437, 2, none⟩ = some (.string (⟨#[]⟩ : ByteArray)) := (blk_cell BK437.out 2).trans rfl; have hfz67_0 := blk_frozen BK437.out 0; have hfz67_1 := blk_frozen BK437.out 1; have hfz67_2 := blk_frozen BK437.out 2))
                   have n0_ : Aside0 (Kd.R k31 31 (((w66.setCell ⟨gb437, 0, none⟩ (.string t433)).setCell ⟨gb437, 1, none⟩ (.string t434)).setCell ⟨gb437, 2, none⟩ (.string t435)) w.heap.size (fun k_ => some k_ ≠ (v429 : Value).ownBlock ∧ k_ ≠ gb437) (.slice (some ad431) t422.length co17) t422) := ⟨by (with_reducible repeat (first | apply Kd.R_alloc | apply Kd.R_drewN | apply Kd.R_drew)); exact Kd.R_mono (Kd.R_far (p := ⟨gb437, 2, none⟩) (Kd.R_far (p := ⟨gb437, 1, none⟩) (Kd.R_far (p := ⟨gb437, 0, none⟩) (Kd.R_mono HO_3.out (fun k_ hk => (⟨hk, hk.2⟩ : _ ∧ k_ ≠ gb437))) (fun _ hk => hk.2) (.string t433)) (fun _ hk => hk.2) (.string t434)) (fun _ hk => hk.2) (.string t435)) (fun _ hk => ⟨hk.1.1, hk.1.2⟩)⟩
                   have n1_ : Aside0 (Kd.R k31 31 (((w66.setCell ⟨gb437, 0, none⟩ (.string t433)).setCell ⟨gb437, 1, none⟩ (.string t434)).setCell ⟨gb437, 2, none⟩ (.string t435)) w.heap.size (fun k_ => some k_ ≠ (.slice (some ad431) t422.length co17 : Value).ownBlock ∧ k_ ≠ gb437) v429 t427) := ⟨by (with_reducible repeat (first | apply Kd.R_alloc | apply Kd.R_drewN | apply Kd.R_drew)); exact Kd.R_mono (Kd.R_far (p := ⟨gb437, 2, none⟩) (Kd.R_far (p := ⟨gb437, 1, none⟩) (Kd.R_far (p := ⟨gb437, 0, none⟩) (Kd.R_mono HO_5.out (fun k_ hk => (⟨hk, hk.2⟩ : _ ∧ k_ ≠ gb437))) (fun _ hk => hk.2) (.string t433)) (fun _ hk => hk.2) (.string t434)) (fun _ hk => hk.2) (.string t435)) (fun _ hk => ⟨hk.1.1, hk.1.2⟩)⟩
                   have n2_ : Aside0 ((((w66.setCell ⟨gb437, 0, none⟩ (.string t433)).setCell ⟨gb437, 1, none⟩ (.string t434)).setCell ⟨gb437, 2, none⟩ (.string t435)).heap[gb437]? = some (.cells #[.string t433, .string t434, .string t435] 31 (0, 0))) := ⟨by (with_reducible repeat (first | refine blk_drewN ?_ _ | refine blk_drew ?_ | refine blk_alloc ?_ _)); refine blk_put (cs := #[.string t433, .string t434, .string (⟨#[]⟩ : ByteArray)]) ?_ 2 _ rfl; (with_reducible repeat (first | refine blk_drewN ?_ _ | refine blk_drew ?_ | refine blk_alloc ?_ _)); refine blk_put (cs := #[.string t433, .string (⟨#[]⟩ : ByteArray), .string (⟨#[]⟩ : ByteArray)]) ?_ 1 _ rfl; (with_reducible repeat (first | refine blk_drewN ?_ _ | refine blk_drew ?_ | refine blk_alloc ?_ _)); refine blk_put (cs := #[.string (⟨#[]⟩ : ByteArray), .string (⟨#[]⟩ : ByteArray), .string (⟨#[]⟩ : ByteArray)]) ?_ 0 _ rfl; (with_reducible repeat (first | refine blk_drewN ?_ _ | refine blk_drew ?_ | refine blk_alloc ?_ _)); exact BK437.out⟩
                   have n3_ : Aside0 (Below w.heap.size w (((w66.setCell ⟨gb437, 0, none⟩ (.string t433)).setCell ⟨gb437, 1, none⟩ (.string t434)).setCell ⟨gb437, 2, none⟩ (.string t435))) := ⟨bwS⟩
                   (try clear HO_3)
                   (try clear HO_5)
                   (try clear BK437)
                   (try clear HB)
                   generalize (((w66.setCell ⟨gb437, 0, none⟩ (.string t433)).setCell ⟨gb437, 1, none⟩ (.string t434)).setCell ⟨gb437, 2, none⟩ (.string t435)) = w68 at n0_ n1_ n2_ n3_ ⊢
                   have HO_3 := n0_
                   have HO_5 := n1_
                   have BK437 := n2_
                   have HB := n3_
                   clear n0_ n1_ n2_ n3_
                   have n0_ := Aside0.mk (Kd.R_drew HO_3.out)
                   have n1_ := Aside0.mk (Kd.R_drew HO_5.out)
                   have n2_ := Aside0.mk (blk_drew BK437.out)
                   have n3_ := Aside0.mk (below_drew1 HB.out)
                   clear HO_3
                   clear HO_5
                   clear BK437
                   clear HB
                   have HO_3 := n0_
                   have HO_5 := n1_
                   have BK437 := n2_
                   have HB := n3_
                   clear n0_ n1_ n2_ n3_
                   have p438 : 0 ≤ (x47_3 : Int) := od
                   have q438 : x47_3 < (t422.length : Int) := od
                   obtain ⟨ad438, e438, hx438_0, hx438_1, hx438_2⟩ := at_T31 (Kd.R_reads' HO_3.out).2.2 x47_3 p438 q438
                   obtain rfl : ad431 = ad438 := (by injection e438)
                   replace p438 := eq_true p438
                   replace q438 := eq_true q438
                   obtain ⟨Ao70, co70, eo70⟩ := Kd.R_slice HO_5.out
                   (first | subst eo70 | (injection eo70 with f1_ f2_ f3_; have f4_ := f1_.symm; have f5_ := f3_.symm; clear f1_ f2_ f3_; subst f4_; subst f5_))
                   have p439 : 0 ≤ (x47_3 : Int) := od
                   have q439 : x47_3 < (t427.length : Int) := od
                   obtain ⟨ad439, e439, hx439_0, hx439_1, hx439_2⟩ := at_T31 (Kd.R_reads' HO_5.out).2.2 x47_3 p439 q439
                   cases e439
                   replace p439 := eq_true p439
                   replace q439 := eq_true q439
                   refine start_ (n := 30) (S := fun w' => w'.cell? (ad431.add ((x47_3).toNat * 3)) = some (.string ((rd_T31 t422 x47_3).f0)) ∧ w'.cell? ⟨(ad431.add ((x47_3).toNat * 3)).block, (ad431.add ((x47_3).toNat * 3)).off + 1, none⟩ = some (.string ((rd_T31 t422 x47_3).f1.f0)) ∧ w'.cell? ⟨(ad431.add ((x47_3).toNat * 3)).block, (ad431.add ((x47_3).toNat * 3)).off + 2, none⟩ = some (.string ((rd_T31 t422 x47_3).f1.f1)) ∧ w'.cell? (ad439.add ((x47_3).toNat * 3)) = some (.string ((rd_T31 t427 x47_3).f0)) ∧ w'.cell? ⟨(ad439.add ((x47_3).toNat * 3)).block, (ad439.add ((x47_3).toNat * 3)).off + 1, none⟩ = some (.string ((rd_T31 t427 x47_3).f1.f0)) ∧ w'.cell? ⟨(ad439.add ((x47_3).toNat * 3)).block, (ad439.add ((x47_3).toNat * 3)).off + 2, none⟩ = some (.string ((rd_T31 t427 x47_3).f1.f1))) (ds := []) #[false, false, false, false, false, false, false, false, false, false, false, false, false, false, false, false, false, false, false, false, false, false, false, false, false, false, false, false, false, false] (by kernel_rfl) rfl rfl ⟨hx438_0, hx438_1, hx438_2, hx439_0, hx439_1, hx439_2⟩ (fun hHeld => ?_); refine with_tabW bulletinlaw14_MbxBack.tab15 bulletinlaw14_MbxBack.bits15 (fun HT_ HW_ => ?_)
                   generalize w68.drew = w69 at HO_3 HO_5 BK437 HB hx438_0 hx438_1 hx438_2 hx439_0 hx439_1 hx439_2 hHeld ⊢
                   refine pure_ (i := 0) (N := some 59) (v := ?_) (a' := ?_) (bitsL 30 1) rfl rfl (any_of HT_.out (by kernel_rfl)) (fun _ _ _ h => h) (Or.inl ⟨by rfl, ?_⟩) ?_ ?_
                   rotate_left
                   ·intro w'
                    go_simp
                    with_reducible rfl
                   rotate_left
                   ·simp only [Act.put, List.setIfInBounds_toArray, List.set_cons_zero, List.set_cons_succ, i64_w, i32_w]
                    rfl
                   refine pure_ (i := 1) (N := some 60) (v := ?_) (a' := ?_) (bitsL 30 3) rfl rfl (any_of HT_.out (by kernel_rfl)) (fun _ _ _ h => h) (Or.inl ⟨by rfl, ?_⟩) ?_ ?_
                   rotate_left
                   ·intro w'
                    go_simp
                    with_reducible rfl
                   rotate_left
                   ·simp only [Act.put, List.setIfInBounds_toArray, List.set_cons_zero, List.set_cons_succ, i64_w, i32_w]
                    rfl
                   refine pure_ (i := 2) (N := some 61) (v := ?_) (a' := ?_) (bitsL 30 7) rfl rfl (any_of HT_.out (by kernel_rfl)) (fun _ _ _ h => h) (Or.inl ⟨by rfl, ?_⟩) ?_ ?_
                   rotate_left
                   ·intro w'
                    go_simp
                    with_reducible rfl
                   rotate_left
                   ·simp only [Act.put, List.setIfInBounds_toArray, List.set_cons_zero, List.set_cons_succ, i64_w, i32_w]
                    rfl
                   refine pure_ (i := 4) (N := some 63) (v := ?_) (a' := ?_) (bitsL 30 23) rfl rfl (any_of HT_.out (by kernel_rfl)) (fun _ _ _ h => h) (Or.inl ⟨by rfl, ?_⟩) ?_ ?_
                   rotate_left
                   ·intro w'
                    go_simp
                    with_reducible rfl
                   rotate_left
                   ·simp only [Act.put, List.setIfInBounds_toArray, List.set_cons_zero, List.set_cons_succ, i64_w, i32_w]
                    rfl
                   refine pure_ (i := 5) (N := some 64) (v := ?_) (a' := ?_) (bitsL 30 55) rfl rfl (any_of HT_.out (by kernel_rfl)) (fun _ _ _ h => h) (Or.inl ⟨by rfl, ?_⟩) ?_ ?_
                   rotate_left
                   ·intro w'
                    go_simp
                    with_reducible rfl
                   rotate_left
                   ·simp only [Act.put, List.setIfInBounds_toArray, List.set_cons_zero, List.set_cons_succ, i64_w, i32_w]
                    rfl
                   refine pure_ (i := 6) (N := some 65) (v := ?_) (a' := ?_) (bitsL 30 119) rfl rfl (any_of HT_.out (by kernel_rfl)) (fun _ _ _ h => h) (Or.inl ⟨by rfl, ?_⟩) ?_ ?_
                   rotate_left
                   ·intro w'
                    go_simp
                    with_reducible rfl
                   rotate_left
                   ·simp only [Act.put, List.setIfInBounds_toArray, List.set_cons_zero, List.set_cons_succ, i64_w, i32_w]
                    rfl
                   refine take_ (i := 3) (N := some 62) (v := ?_) (a' := ?_) (bitsL 30 127) rfl rfl (take_ofW HT_.out HW_.out (by kernel_rfl)) (fun _ _ _ h => h) (Or.inl ⟨by rfl, ?_⟩) hHeld ?_ ?_
                   rotate_left
                   ·rintro w' ⟨s0, s1, s2, s3, s4, s5⟩
                    go_simp
                    with_reducible rfl
                   rotate_left
                   ·simp only [Act.put, List.setIfInBounds_toArray, List.set_cons_zero, List.set_cons_succ, i64_w, i32_w]
                    rfl
                   refine take_ (i := 7) (N := some 66) (v := ?_) (a' := ?_) (bitsL 30 255) rfl rfl (take_ofW HT_.out HW_.out (by kernel_rfl)) (fun _ _ _ h => h) (Or.inl ⟨by rfl, ?_⟩) hHeld ?_ ?_
                   rotate_left
                   ·rintro w' ⟨s0, s1, s2, s3, s4, s5⟩
                    go_simp
                    with_reducible rfl
                   rotate_left
                   ·simp only [Act.put, List.setIfInBounds_toArray, List.set_cons_zero, List.set_cons_succ, i64_w, i32_w]
                    rfl
                   refine pure_ (i := 8) (N := some 67) (v := ?_) (a' := ?_) (bitsL 30 511) rfl rfl (any_of HT_.out (by kernel_rfl)) (fun _ _ _ h => h) (Or.inl ⟨by rfl, ?_⟩) ?_ ?_
                   rotate_left
                   ·intro w'
                    go_simp
                    with_reducible rfl
                   rotate_left
                   ·simp only [Act.put, List.setIfInBounds_toArray, List.set_cons_zero, List.set_cons_succ, i64_w, i32_w]
                    rfl
                   refine pure_ (i := 9) (N := some 68) (v := ?_) (a' := ?_) (bitsL 30 1023) rfl rfl (any_of HT_.out (by kernel_rfl)) (fun _ _ _ h => h) (Or.inl ⟨by rfl, ?_⟩) ?_ ?_
                   rotate_left
                   ·intro w'
                    go_simp
                    with_reducible rfl
                   rotate_left
                   ·simp only [Act.put, List.setIfInBounds_toArray, List.set_cons_zero, List.set_cons_succ, i64_w, i32_w]
                    rfl
                   refine pure_ (i := 10) (N := some 69) (v := ?_) (a' := ?_) (bitsL 30 2047) rfl rfl (any_of HT_.out (by kernel_rfl)) (fun _ _ _ h => h) (Or.inl ⟨by rfl, ?_⟩) ?_ ?_
                   rotate_left
                   ·intro w'
                    go_simp
                    with_reducible rfl
                   rotate_left
                   ·simp only [Act.put, List.setIfInBounds_toArray, List.set_cons_zero, List.set_cons_succ, i64_w, i32_w]
                    rfl
                   refine pure_ (i := 11) (N := some 70) (v := ?_) (a' := ?_) (bitsL 30 4095) rfl rfl (any_of HT_.out (by kernel_rfl)) (fun _ _ _ h => h) (Or.inl ⟨by rfl, ?_⟩) ?_ ?_
                   rotate_left
                   ·intro w'
                    go_simp
                    with_reducible rfl
                   rotate_left
                   ·simp only [Act.put, List.setIfInBounds_toArray, List.set_cons_zero, List.set_cons_succ, i64_w, i32_w]
                    rfl
                   refine pure_ (i := 12) (N := some 71) (v := ?_) (a' := ?_) (bitsL 30 8191) rfl rfl (any_of HT_.out (by kernel_rfl)) (fun _ _ _ h => h) (Or.inl ⟨by rfl, ?_⟩) ?_ ?_
                   rotate_left
                   ·intro w'
                    go_simp
                    with_reducible rfl
                   rotate_left
                   ·simp only [Act.put, List.setIfInBounds_toArray, List.set_cons_zero, List.set_cons_succ, i64_w, i32_w]
                    rfl
                   refine pure_ (i := 13) (N := some 72) (v := ?_) (a' := ?_) (bitsL 30 16383) rfl rfl (any_of HT_.out (by kernel_rfl)) (fun _ _ _ h => h) (Or.inl ⟨by rfl, ?_⟩) ?_ ?_
                   rotate_left
                   ·intro w'
                    go_simp
                    with_reducible rfl
                   rotate_left
                   ·simp only [Act.put, List.setIfInBounds_toArray, List.set_cons_zero, List.set_cons_succ, i64_w, i32_w]
                    rfl
                   refine pure_ (i := 14) (N := some 73) (v := undef) (a' := ?_) (bitsL 30 32767) rfl rfl (any_of HT_.out (by kernel_rfl)) (fun _ _ _ h => h) (Or.inr ⟨by rfl, rfl⟩) ?_ ?_
                   rotate_left
                   ·simp only [Act.put, List.setIfInBounds_toArray, List.set_cons_zero, List.set_cons_succ, i64_w, i32_w]
                    rfl
                   refine pure_ (i := 15) (N := some 74) (v := undef) (a' := ?_) (bitsL 30 65535) rfl rfl (any_of HT_.out (by kernel_rfl)) (fun _ _ _ h => h) (Or.inr ⟨by rfl, rfl⟩) ?_ ?_
                   rotate_left
                   ·simp only [Act.put, List.setIfInBounds_toArray, List.set_cons_zero, List.set_cons_succ, i64_w, i32_w]
                    rfl
                   refine pure_ (i := 16) (N := some 75) (v := undef) (a' := ?_) (bitsL 30 131071) rfl rfl (any_of HT_.out (by kernel_rfl)) (fun _ _ _ h => h) (Or.inr ⟨by rfl, rfl⟩) ?_ ?_
                   rotate_left
                   ·simp only [Act.put, List.setIfInBounds_toArray, List.set_cons_zero, List.set_cons_succ, i64_w, i32_w]
                    rfl
                   refine pure_ (i := 17) (N := some 76) (v := undef) (a' := ?_) (bitsL 30 262143) rfl rfl (any_of HT_.out (by kernel_rfl)) (fun _ _ _ h => h) (Or.inr ⟨by rfl, rfl⟩) ?_ ?_
                   rotate_left
                   ·simp only [Act.put, List.setIfInBounds_toArray, List.set_cons_zero, List.set_cons_succ, i64_w, i32_w]
                    rfl
                   refine pure_ (i := 18) (N := some 77) (v := undef) (a' := ?_) (bitsL 30 524287) rfl rfl (any_of HT_.out (by kernel_rfl)) (fun _ _ _ h => h) (Or.inr ⟨by rfl, rfl⟩) ?_ ?_
                   rotate_left
                   ·simp only [Act.put, List.setIfInBounds_toArray, List.set_cons_zero, List.set_cons_succ, i64_w, i32_w]
                    rfl
                   refine pure_ (i := 19) (N := some 78) (v := undef) (a' := ?_) (bitsL 30 1048575) rfl rfl (any_of HT_.out (by kernel_rfl)) (fun _ _ _ h => h) (Or.inr ⟨by rfl, rfl⟩) ?_ ?_
                   rotate_left
                   ·simp only [Act.put, List.setIfInBounds_toArray, List.set_cons_zero, List.set_cons_succ, i64_w, i32_w]
                    rfl
                   refine pure_ (i := 20) (N := some 79) (v := ?_) (a' := ?_) (bitsL 30 2097151) rfl rfl (any_of HT_.out (by kernel_rfl)) (fun _ _ _ h => h) (Or.inl ⟨by rfl, ?_⟩) ?_ ?_
                   rotate_left
                   ·intro w'
                    go_simp
                    with_reducible rfl
                   rotate_left
                   ·simp only [Act.put, List.setIfInBounds_toArray, List.set_cons_zero, List.set_cons_succ, i64_w, i32_w]
                    rfl
                   refine pure_ (i := 21) (N := some 80) (v := ?_) (a' := ?_) (bitsL 30 4194303) rfl rfl (any_of HT_.out (by kernel_rfl)) (fun _ _ _ h => h) (Or.inl ⟨by rfl, ?_⟩) ?_ ?_
                   rotate_left
                   ·intro w'
                    go_simp
                    with_reducible rfl
                   rotate_left
                   ·simp only [Act.put, List.setIfInBounds_toArray, List.set_cons_zero, List.set_cons_succ, i64_w, i32_w]
                    rfl
                   refine pure_ (i := 22) (N := some 81) (v := undef) (a' := ?_) (bitsL 30 8388607) rfl rfl (any_of HT_.out (by kernel_rfl)) (fun _ _ _ h => h) (Or.inr ⟨by rfl, rfl⟩) ?_ ?_
                   rotate_left
                   ·simp only [Act.put, List.setIfInBounds_toArray, List.set_cons_zero, List.set_cons_succ, i64_w, i32_w]
                    rfl
                   refine pure_ (i := 23) (N := some 82) (v := undef) (a' := ?_) (bitsL 30 16777215) rfl rfl (any_of HT_.out (by kernel_rfl)) (fun _ _ _ h => h) (Or.inr ⟨by rfl, rfl⟩) ?_ ?_
                   rotate_left
                   ·simp only [Act.put, List.setIfInBounds_toArray, List.set_cons_zero, List.set_cons_succ, i64_w, i32_w]
                    rfl
                   refine pure_ (i := 24) (N := some 83) (v := undef) (a' := ?_) (bitsL 30 33554431) rfl rfl (any_of HT_.out (by kernel_rfl)) (fun _ _ _ h => h) (Or.inr ⟨by rfl, rfl⟩) ?_ ?_
                   rotate_left
                   ·simp only [Act.put, List.setIfInBounds_toArray, List.set_cons_zero, List.set_cons_succ, i64_w, i32_w]
                    rfl
                   refine pure_ (i := 25) (N := some 84) (v := undef) (a' := ?_) (bitsL 30 67108863) rfl rfl (any_of HT_.out (by kernel_rfl)) (fun _ _ _ h => h) (Or.inr ⟨by rfl, rfl⟩) ?_ ?_
                   rotate_left
                   ·simp only [Act.put, List.setIfInBounds_toArray, List.set_cons_zero, List.set_cons_succ, i64_w, i32_w]
                    rfl
                   refine pure_ (i := 26) (N := some 85) (v := undef) (a' := ?_) (bitsL 30 134217727) rfl rfl (any_of HT_.out (by kernel_rfl)) (fun _ _ _ h => h) (Or.inr ⟨by rfl, rfl⟩) ?_ ?_
                   rotate_left
                   ·simp only [Act.put, List.setIfInBounds_toArray, List.set_cons_zero, List.set_cons_succ, i64_w, i32_w]
                    rfl
                   refine pure_ (i := 27) (N := some 86) (v := undef) (a' := ?_) (bitsL 30 268435455) rfl rfl (any_of HT_.out (by kernel_rfl)) (fun _ _ _ h => h) (Or.inr ⟨by rfl, rfl⟩) ?_ ?_
                   rotate_left
                   ·simp only [Act.put, List.setIfInBounds_toArray, List.set_cons_zero, List.set_cons_succ, i64_w, i32_w]
                    rfl
                   refine pure_ (i := 28) (N := some 87) (v := undef) (a' := ?_) (bitsL 30 536870911) rfl rfl (any_of HT_.out (by kernel_rfl)) (fun _ _ _ h => h) (Or.inr ⟨by rfl, rfl⟩) ?_ ?_
                   rotate_left
                   ·simp only [Act.put, List.setIfInBounds_toArray, List.set_cons_zero, List.set_cons_succ, i64_w, i32_w]
                    rfl
                   refine pure_ (i := 29) (N := some 88) (v := ?_) (a' := ?_) (bitsL 30 1073741823) rfl rfl (any_of HT_.out (by kernel_rfl)) (fun _ _ _ h => h) (Or.inl ⟨by rfl, ?_⟩) ?_ ?_
                   rotate_left
                   ·intro w'
                    go_simp
                    with_reducible rfl
                   rotate_left
                   ·simp only [Act.put, List.setIfInBounds_toArray, List.set_cons_zero, List.set_cons_succ, i64_w, i32_w]
                    rfl
                   refine done_ (done_of HT_.out (by kernel_rfl)) ?_
                   as_aux_lemma =>
                    try go_wp2
                    go_ret
                    exact ⟨by first | rfl | (simp [errW_none, errW_some] <;> rfl) | (simp [*, errW_none, errW_some] <;> rfl), bwS⟩
               ·rw [if_neg c28] at H
                exact absurd H (by simp)
              ·rw [if_neg c25] at H
               exact absurd H (by simp)
             ·rw [if_neg c24] at H
              exact absurd H (by simp)
            ·rw [if_neg c23] at H
             have c23b0 : decide (x47_3 < (t422.length : Int)) = false := decide_eq_false c23
             clear c23
             obtain rfl := Option.some.inj H
             as_aux_lemma =>
              go_wp2
              go_ret
              exact ⟨by first | rfl | (simp [errW_none, errW_some] <;> rfl) | (simp [*, errW_none, errW_some] <;> rfl), bw⟩
 ·replace c3 := Bool.eq_false_iff.mpr c3
  subst c3
  have H1 : (some false) = some r := by rw [if_neg (show ¬ (false = true) by decide)] at H; exact H
  clear H
  have H := H1
  clear H1
  obtain rfl := Option.some.inj H
  go_enter Tryd.func7, Tryd.ntmps7
  go_wp2_with (first | ((with_reducible refine gate_callee (f := 9) rfl ?_); refine goesL_ (some 10) rfl rfl Tryd.func9 (by kernel_rfl) rfl #[] rfl am ?_; (with_reducible refine (bulletinlaw14_works.calls (hG := by first | exact hG | exact Glob.below hG (by first | exact HB.out | (repeat (first | (with_reducible first | exact HB.out | apply below_alloc | apply pw_below_drewN | apply below_drew1 | refine below_set ?_ GE437.out) | exact HB.out))) | exact Glob.drawn hG (by repeat (first | exact Drawn0.refl _ | apply Drawn0.step))) k  false _ A2.out).mono ?_); rintro e w71 ⟨rfl, hb⟩; refine ⟨_, rfl, ?_⟩; have n0_ := Aside0.mk (below_step bw hb); clear HB; have HB := n0_; clear n0_; (try clear hb); (try clear hb2); (try clear hk); (try clear hi)))
  go_ret
  exact ⟨by first | rfl | (simp [errW_none, errW_some] <;> rfl) | (simp [*, errW_none, errW_some] <;> rfl), bw⟩


end Go.Proofs.YtbjbpgmjijeppaaDoor.Fn
set_option linter.unusedVariables false
set_option linter.unusedSimpArgs false
namespace Go.Proofs.YtbjbpgmjijeppaaDoor.Pl
open Go.RowKit Go.Proofs.YtbjbpgmjijeppaaDoorW.PrintWords Go.Proofs.YtbjbpgmjijeppaaDoor.Fn

/-! Layer 14: so many addresses. -/
end Go.Proofs.YtbjbpgmjijeppaaDoor.Pl
set_option linter.unusedVariables false
set_option linter.unusedSimpArgs false
namespace Go.Proofs.YtbjbpgmjijeppaaDoor.Pl
open Go.RowKit Go.Proofs.YtbjbpgmjijeppaaDoorW.PrintWords Go.Proofs.YtbjbpgmjijeppaaDoor.Fn

/-! Layer 14: what the program's functions compute -/
theorem mbxRead_is (s : ByteArray) (hs : s.size ≤ 50000) : mbx_Read.f s = some ((readL (bs s)).1.map toBox, (readL (bs s)).2) := if_pos hs
theorem rd31 {l : List BoxL} {i : Nat} {x : BoxL} {r : List BoxL} (h : l.drop i = x :: r) : rd_T31 (l.map toBox) (i : Int) = toBox x := by
  have h3 : l[i]? = some x := by
    have := congrArg List.head? h
    rw [List.head?_drop] at this
    exact this
  unfold rd_T31
  rw [Int.toNat_natCast, List.getD_eq_getElem?_getD, List.getElem?_map, h3]
  rfl
theorem mbxPhrase_is (s : ByteArray) (hs : s.size ≤ 1000000000) : mbx_Phrase.f s = some (str (phraseL (bs s))) := by
  unfold mbx_Phrase.f
  rw [if_pos hs]
  congr 1
  unfold phraseB phraseL
  have h : (blanks s).all isAtom = (splitL 32 (bs s)).all atomL := by
    rw [← cuts_split 32 s.size s (Nat.le_refl _), all_map_bs]
    rfl
  rw [h]
  split
  · rw [str_bs]
  · rfl
theorem phraseL_length (n : Bytes) : (phraseL n).length ≤ 2 * n.length + 2 := by
  unfold phraseL
  split
  · omega
  · exact quote_length n
theorem showB_length (x : BoxL) : (showB x).length ≤ 2 * x.1.length + (textL x.2.1 x.2.2).length + 5 := by
  have := phraseL_length x.1
  unfold showB
  split
  · omega
  · simp only [List.length_append, List.length_cons, List.length_nil]; omega
theorem mbxShow_is (n a b : ByteArray) (hn : n.size ≤ 1000000) (ha : a.size ≤ 1000000) (hb : b.size ≤ 1000000) (k : Nat) (hk : 2 * a.size + 1 ≤ k) : mbx_Show.f k n a b = some (str (showB (bs n, bs a, bs b))) := by
  have ht := addrText_is a b ha hb k hk
  have hl := textL_length (bs a) (bs b)
  have hp := phraseL_length (bs n)
  rw [bs_length] at hp hl
  rw [bs_length] at hl
  unfold mbx_Show.f showB
  by_cases h : n.toList = ([] : List UInt8)
  · rw [if_pos h, ht, Option.bind_some, if_pos (by rw [← toList_bs]; exact h)]
  · rw [if_neg h, mbxPhrase_is n (by omega), Option.bind_some, if_pos (by rw [str_size]; omega), ht, Option.bind_some, str_lit #[32, 60], str_lit #[62], str_app, str_app, str_app,
      if_pos (by rw [str_size, str_size]; simp only [List.length_append, List.length_cons, List.length_nil]; omega), if_pos (by rw [str_size]; simp only [List.length_append, List.length_cons, List.length_nil]; omega), if_neg (by rw [← toList_bs]; exact h)]
    simp
def weigh (m : Nat) (xs : List BoxL) : Prop := ∀ x ∈ xs, x.1.length ≤ m ∧ x.2.1.length ≤ m ∧ x.2.2.length ≤ m
theorem join_map_str (xs : List BoxL) : join (xs.map fun x => str (showB x)) ⟨#[44, 32]⟩ = str (Lib.join (xs.map showB) [44, 32]) := by
  unfold join
  rw [List.map_map]
  exact congrArg str (congrArg (Lib.join · [44, 32]) (List.map_congr_left fun x _ => bs_str (showB x)))
theorem joinL_length (m : Nat) : ∀ xs : List Bytes, (∀ x ∈ xs, x.length ≤ m) → (Lib.join xs [44, 32]).length ≤ xs.length * (m + 2)
  | [], _ => by rw [join_nil]; simp
  | [x], h => by
    have := h x (by simp)
    rw [join_one]; simp; omega
  | x :: y :: r, h => by
    have h1 := h x (by simp)
    have ih := joinL_length m (y :: r) (fun z hz => h z (by simp at hz ⊢; exact .inr hz))
    rw [join_cons2]
    simp only [List.length_append, List.length_cons, List.length_nil] at ih ⊢
    rw [Nat.succ_mul]
    omega
theorem mbxShowAll_l0 (m : Nat) (hm : m ≤ 1000000) (xs : List BoxL) (hx : weigh m xs) (hl : xs.length ≤ 1000) : ∀ (r : List BoxL) (i k : Nat), xs.drop i = r → i ≤ xs.length → r.length + 2 * m + 2 ≤ k →
    mbx_ShowAll.l0 k ((xs.take i).map fun x => str (showB x)) (xs.map toBox) (xs.length : Int) (i : Int) = some (str (Lib.join (xs.map showB) [44, 32]))
  | [], i, k, hd, hi, hk => by
    obtain ⟨k, rfl⟩ : ∃ j, k = j + 1 := ⟨k - 1, by omega⟩
    have hz : xs.length ≤ i := by
      have := congrArg List.length hd
      rw [List.length_drop, List.length_nil] at this
      omega
    rw [mbx_ShowAll.l0, if_neg (by omega), List.take_of_length_le hz]
    have hj := joinL_length (2 * m + (3 * m + 3) + 5) (xs.map showB) (fun y hy => by
      obtain ⟨x, hx1, rfl⟩ := List.mem_map.1 hy
      have h1 := showB_length x
      have h2 := textL_length x.2.1 x.2.2
      obtain ⟨h3, h4, h5⟩ := hx x hx1
      omega)
    rw [List.length_map] at hj
    have hj2 : xs.length * (2 * m + (3 * m + 3) + 5 + 2) ≤ 1000 * 5000010 := Nat.mul_le_mul hl (by omega)
    unfold strings_Join.f
    rw [if_pos (by rw [List.length_map]; omega), join_map_str, if_pos (by rw [str_size]; omega), Option.bind_some]
  | x :: r, i, k, hd, hi, hk => by
    simp only [List.length_cons] at hk
    obtain ⟨k, rfl⟩ : ∃ j, k = j + 1 := ⟨k - 1, by omega⟩
    have hlt : i < xs.length := by
      have := congrArg List.length hd
      rw [List.length_drop, List.length_cons] at this
      omega
    have hmem : x ∈ xs := List.mem_of_mem_drop (i := i) (by rw [hd]; exact List.mem_cons_self)
    obtain ⟨h3, h4, h5⟩ := hx x hmem
    have hs : xs.take (i + 1) = xs.take i ++ [x] := by
      rw [List.take_succ_eq_append_getElem hlt]
      congr 2
      have := List.getElem?_drop (xs := xs) (i := i) (j := 0)
      rw [hd] at this
      simpa [List.getElem?_eq_getElem hlt] using this.symm
    rw [mbx_ShowAll.l0, if_pos (by omega), if_pos (by omega), if_pos (by rw [List.length_map]; omega), rd31 hd]
    unfold toBox
    simp only []
    rw [mbxShow_is _ _ _ (by rw [str_size]; omega) (by rw [str_size]; omega) (by rw [str_size]; omega) k (by rw [str_size]; omega), Option.bind_some, bs_str, bs_str, bs_str, if_pos (by rw [List.length_map, List.length_take]; omega), wrap_succ i (by omega)]
    have ih := mbxShowAll_l0 m hm xs hx hl r (i + 1) k (by rw [← List.drop_drop, hd]; rfl) (by omega) (by omega)
    rw [hs, List.map_append, List.map_singleton] at ih
    exact ih
theorem mbxShowAll_is (m : Nat) (hm : m ≤ 1000000) (xs : List BoxL) (hx : weigh m xs) (hl : xs.length ≤ 1000) (k : Nat) (hk : xs.length + 2 * m + 2 ≤ k) : mbx_ShowAll.f k (xs.map toBox) = some (str (Lib.join (xs.map showB) [44, 32])) := by
  unfold mbx_ShowAll.f
  rw [List.length_map]
  exact mbxShowAll_l0 m hm xs hx hl xs 0 k rfl (Nat.zero_le _) hk
def oneL (s : Bytes) : BoxL × Int := if (readL s).2 ≠ 0 then (([], [], []), (readL s).2) else match (readL s).1 with
  | [x] => (x, 0)
  | _ => (([], [], []), 130)
theorem mbxOne_is (s : ByteArray) (hs : s.size ≤ 50000) : mbx_One.f s = some (str (oneL (bs s)).1.1, str (oneL (bs s)).1.2.1, str (oneL (bs s)).1.2.2, (oneL (bs s)).2) := by
  unfold mbx_One.f oneL
  rw [mbxRead_is s hs, Option.bind_some]
  obtain ⟨⟨l, e⟩, h⟩ : ∃ x, readL (bs s) = x := ⟨_, rfl⟩
  rw [h]
  simp only [List.length_map]
  by_cases he : e = 0
  · subst he
    rw [if_pos rfl]
    match l with
    | [] => rfl
    | [x] => rfl
    | x :: y :: r => rw [if_neg (by simp only [List.length_cons]; omega)]; rfl
  · rw [if_neg he]
    simp only [ne_eq, he, not_false_eq_true, if_true]
    rfl
set_option maxRecDepth 100000 in
theorem works14 (k : Nat) (hk : 100 ≤ k) : bulletinlaw14_works.f k = some true := mono_up (fun k => bulletinlaw14_works.mono k) (show bulletinlaw14_works.f 100 = some true by decide +kernel) k hk
end Go.Proofs.YtbjbpgmjijeppaaDoor.Pl
set_option linter.unusedVariables false
set_option linter.unusedSimpArgs false
namespace Go.Proofs.YtbjbpgmjijeppaaDoor.Pl
open Go.RowKit Go.Proofs.YtbjbpgmjijeppaaDoorW.PrintWords Go.Proofs.YtbjbpgmjijeppaaDoor.Fn

/-! how long the names are -/
def bulk (l : List Tok) : Nat := (cat l).length + l.length
def wt (xs : List BoxL) : Nat := (xs.map (·.1.length)).sum
theorem bulk_app (a b : List Tok) : bulk (a ++ b) = bulk a + bulk b := by
  unfold bulk
  rw [cat_app]
  simp only [List.length_append]
  omega
theorem wt_app (a b : List BoxL) : wt (a ++ b) = wt a + wt b := by simp [wt]
theorem wt_one (x : BoxL) : wt [x] = x.1.length := by simp [wt]
theorem address_wt {nm : Bytes} {l l' : List Tok} {bx bx' : List BoxL} (h : addressM nm l bx = ((l', bx'), 0)) : ∃ pre a b, l = pre ++ l' ∧ bx' = bx ++ [(nm, a, b)] := by
  unfold addressM at h
  by_cases h0 : (ofT (l.takeWhile nonT)).2.2 ≠ 0
  · rw [if_pos h0] at h; exact absurd (show (ofT (l.takeWhile nonT)).2.2 = 0 from congrArg Prod.snd h) h0
  rw [if_neg h0] at h
  by_cases h1 : bx.length = 100
  · rw [if_pos h1] at h; cases h
  rw [if_neg h1] at h
  cases h
  exact ⟨l.takeWhile nonT, _, _, List.takeWhile_append_dropWhile.symm, rfl⟩
theorem mailbox_wt {l l' : List Tok} {bx bx' : List BoxL} (h : mailboxM l bx = ((l', bx'), 0)) : ∃ pre x, l = pre ++ l' ∧ bx' = bx ++ [x] ∧ x.1.length ≤ bulk pre := by
  unfold mailboxM at h
  by_cases h0 : headIs (l.dropWhile wordT) [60] = true
  · rw [if_pos h0] at h
    unfold angleM at h
    obtain ⟨t, r, hr, ht⟩ := headIs_ne h0
    rw [hr, List.tail_cons] at h
    obtain ⟨⟨⟨la, ba⟩, ea⟩, hA⟩ : ∃ x, addressM (nameL l) r bx = x := ⟨_, rfl⟩
    rw [hA] at h
    by_cases h1 : ea ≠ 0
    · rw [if_pos h1] at h; cases h; exact absurd rfl h1
    rw [if_neg h1] at h
    have h1' : ea = 0 := by simpa using h1
    subst h1'
    by_cases h2 : headIs la [62] = true
    · rw [if_pos h2] at h; cases h
      obtain ⟨pre, a, b, e1, rfl⟩ := address_wt hA
      obtain ⟨t2, r2, rfl, ht2⟩ := headIs_ne h2
      refine ⟨l.takeWhile wordT ++ (t :: (pre ++ [t2])), _, ?_, rfl, ?_⟩
      · show l = l.takeWhile wordT ++ (t :: (pre ++ [t2])) ++ r2
        have h3 := List.takeWhile_append_dropWhile (p := wordT) (l := l)
        rw [hr, e1] at h3
        refine h3.symm.trans ?_
        simp
      · rw [bulk_app]
        have := Fn.join_len (l.takeWhile wordT)
        show (nameL l).length ≤ bulk (l.takeWhile wordT) + _
        unfold nameL bulk
        omega
    · rw [if_neg h2] at h; cases h
  · rw [if_neg h0] at h
    obtain ⟨pre, a, b, e1, rfl⟩ := address_wt h
    exact ⟨pre, _, e1, rfl, Nat.zero_le _⟩
theorem group_wt : ∀ (k : Nat) {l l' : List Tok} {bx bx' : List BoxL}, groupM k l bx = ((l', bx'), 0) → ∃ pre d, l = pre ++ l' ∧ bx' = bx ++ d ∧ wt d ≤ bulk pre
  | 0, l, l', bx, bx', h => by cases h
  | k + 1, l, l', bx, bx', h => by
    rw [groupM] at h
    by_cases c1 : headIs l [59] = true
    · rw [if_pos c1] at h; cases h
      obtain ⟨t, r, rfl, ht⟩ := headIs_ne c1
      exact ⟨[t], [], rfl, by simp, by simp [wt]⟩
    rw [if_neg c1] at h
    obtain ⟨⟨⟨l1, b1⟩, e1⟩, hA⟩ : ∃ x, mailboxM l bx = x := ⟨_, rfl⟩
    rw [hA] at h
    by_cases c2 : e1 ≠ 0
    · rw [if_pos c2] at h; cases h; exact absurd rfl c2
    rw [if_neg c2] at h
    have c2' : e1 = 0 := by simpa using c2
    subst c2'
    obtain ⟨pre, x, rfl, rfl, hx⟩ := mailbox_wt hA
    simp only [] at h
    by_cases c3 : headIs l1 [59] = true
    · rw [if_pos c3] at h
      obtain ⟨pre2, d, rfl, rfl, hd⟩ := group_wt k h
      exact ⟨pre ++ pre2, x :: d, by simp, by simp, by rw [bulk_app, show x :: d = [x] ++ d from rfl, wt_app, wt_one]; omega⟩
    rw [if_neg c3] at h
    by_cases c4 : headIs l1 [44] = true ∧ headIs l1.tail [59] = false
    · rw [if_pos c4] at h
      obtain ⟨t, r, rfl, ht⟩ := headIs_ne c4.1
      rw [List.tail_cons] at h
      obtain ⟨pre2, d, rfl, rfl, hd⟩ := group_wt k h
      exact ⟨pre ++ ([t] ++ pre2), x :: d, by simp, by simp, by rw [bulk_app, bulk_app, show x :: d = [x] ++ d from rfl, wt_app, wt_one]; omega⟩
    · rw [if_neg c4] at h; cases h
theorem item_wt {l l' : List Tok} {bx bx' : List BoxL} (h : itemM l bx = ((l', bx'), 0)) : ∃ pre d, l = pre ++ l' ∧ bx' = bx ++ d ∧ wt d ≤ bulk pre := by
  unfold itemM at h
  by_cases c1 : l.takeWhile wordT ≠ [] ∧ headIs (l.dropWhile wordT) [58] = true
  · rw [if_pos c1] at h
    obtain ⟨t, r, hr, ht⟩ := headIs_ne c1.2
    rw [hr, List.tail_cons] at h
    obtain ⟨pre, d, e1, rfl, hd⟩ := group_wt _ h
    refine ⟨l.takeWhile wordT ++ ([t] ++ pre), d, ?_, rfl, by rw [bulk_app, bulk_app]; omega⟩
    have h3 := List.takeWhile_append_dropWhile (p := wordT) (l := l)
    rw [hr, e1] at h3
    refine h3.symm.trans ?_
    simp
  · rw [if_neg c1] at h
    obtain ⟨pre, x, e1, rfl, hx⟩ := mailbox_wt h
    exact ⟨pre, [x], e1, rfl, by rw [wt_one]; exact hx⟩
theorem read_wt : ∀ (k : Nat) {l : List Tok} {bx r : List BoxL}, readM k l bx = (r, 0) → ∃ d, r = bx ++ d ∧ wt d ≤ bulk l
  | 0, l, bx, r, h => by cases h
  | k + 1, l, bx, r, h => by
    rw [readM] at h
    obtain ⟨⟨⟨l1, b1⟩, e1⟩, hA⟩ : ∃ x, itemM l bx = x := ⟨_, rfl⟩
    rw [hA] at h
    by_cases c2 : e1 ≠ 0
    · rw [if_pos c2] at h; simp only [Prod.mk.injEq] at h; exact absurd h.2 c2
    rw [if_neg c2] at h
    have c2' : e1 = 0 := by simpa using c2
    subst c2'
    obtain ⟨pre, d, rfl, rfl, hd⟩ := item_wt hA
    simp only [] at h
    by_cases c3 : l1 = []
    · rw [if_pos c3] at h; cases h
      exact ⟨d, rfl, by rw [bulk_app]; omega⟩
    rw [if_neg c3] at h
    by_cases c4 : headIs l1 [44] = true
    · rw [if_pos c4] at h
      obtain ⟨t, r1, rfl, ht⟩ := headIs_ne c4
      rw [List.tail_cons] at h
      obtain ⟨d2, rfl, hd2⟩ := read_wt k h
      exact ⟨d ++ d2, by simp, by rw [bulk_app, show t :: r1 = [t] ++ r1 from rfl, bulk_app, wt_app]; omega⟩
    · rw [if_neg c4] at h; cases h
theorem readL_wt {s : Bytes} {r : List BoxL} (h : readL s = (r, 0)) : wt r ≤ 2 * s.length := by
  unfold readL at h
  by_cases c : (scanL [] .out s).2 ≠ 0
  · rw [if_pos c] at h; simp only [Prod.mk.injEq] at h; exact absurd h.2 c
  rw [if_neg c] at h
  obtain ⟨d, rfl, hd⟩ := read_wt _ h
  have := scanL_bound s
  unfold bulk at hd
  omega
theorem good_parts {x : BoxL} (h : goodB x) : x.2.1.length ≤ 64 ∧ (textL x.2.1 x.2.2).length ≤ 254 ∧ x.2.2.length ≤ 254 := by
  obtain ⟨d1, n1, p1, f1, s1, s2⟩ := right_parts h.2
  rw [bs_str, bs_str] at s2
  rw [str_size] at s1
  refine ⟨s1, s2, ?_⟩
  have e : (textL x.2.1 x.2.2).length = (localL x.2.1).length + (x.2.2.length + 1) := by unfold textL; simp
  omega
theorem shown_length : ∀ xs : List BoxL, (∀ x ∈ xs, goodB x) → (Lib.join (xs.map showB) [44, 32]).length ≤ 2 * wt xs + xs.length * 261
  | [], _ => by rw [List.map_nil, join_nil]; simp
  | [x], h => by
    have h1 := showB_length x
    have h2 := good_parts (h x (by simp))
    rw [List.map_cons, List.map_nil, join_one, wt_one]
    simp only [List.length_cons, List.length_nil]
    omega
  | x :: y :: r, h => by
    have h1 := showB_length x
    have h2 := good_parts (h x (by simp))
    have ih := shown_length (y :: r) (fun z hz => h z (by simp at hz ⊢; exact .inr hz))
    rw [List.map_cons, List.map_cons, join_cons2, ← List.map_cons, show x :: y :: r = [x] ++ (y :: r) from rfl, wt_app, wt_one]
    simp only [List.length_append, List.length_cons, List.length_nil] at ih ⊢
    omega
theorem wt_mem {xs : List BoxL} {x : BoxL} (h : x ∈ xs) : x.1.length ≤ wt xs := by
  induction xs with
  | nil => cases h
  | cons y r ih =>
    rw [show y :: r = [y] ++ r from rfl, wt_app, wt_one]
    rcases List.mem_cons.1 h with rfl | h
    · omega
    · have := ih h; omega
theorem one_shown {x : BoxL} (h : goodB x) : oneL (showB x) = (x, 0) := by
  have := readL_shown [x] (by simp) (fun y hy => by rw [List.mem_singleton.1 hy]; exact h) (by simp)
  rw [List.map_cons, List.map_nil, join_one] at this
  unfold oneL
  rw [this]
  rfl
theorem back_l0 (p : List BoxL) (hg : ∀ x ∈ p, goodB x) (hw : wt p ≤ 4000) (hp : p.length ≤ 100) : ∀ (r : List BoxL) (i k : Nat), p.drop i = r → i ≤ p.length → r.length + 1000 < k →
    bulletinlaw14_MbxBack.l0 k (p.map toBox) (p.map toBox) (p.length : Int) (i : Int) = some true
  | [], i, k, hd, hi, hk => by
    obtain ⟨k, rfl⟩ : ∃ j, k = j + 1 := ⟨k - 1, by omega⟩
    have hz : p.length ≤ i := by
      have := congrArg List.length hd
      rw [List.length_drop, List.length_nil] at this
      omega
    rw [bulletinlaw14_MbxBack.l0, if_neg (by omega)]
  | x :: r, i, k, hd, hi, hk => by
    simp only [List.length_cons] at hk
    obtain ⟨k, rfl⟩ : ∃ j, k = j + 1 := ⟨k - 1, by omega⟩
    have hlt : i < p.length := by
      have := congrArg List.length hd
      rw [List.length_drop, List.length_cons] at this
      omega
    have hmem : x ∈ p := List.mem_of_mem_drop (i := i) (by rw [hd]; exact List.mem_cons_self)
    have hgx := hg x hmem
    obtain ⟨g1, g2, g3⟩ := good_parts hgx
    have g4 := wt_mem hmem
    have hsl := showB_length x
    have ih := back_l0 p hg hw hp r (i + 1) k (by rw [← List.drop_drop, hd]; rfl) (by omega) (by omega)
    rw [bulletinlaw14_MbxBack.l0, if_pos (by omega), if_pos (by omega), List.length_map, if_pos (by omega), rd31 hd]
    unfold toBox
    simp only []
    rw [mbxShow_is _ _ _ (by rw [str_size]; omega) (by rw [str_size]; omega) (by rw [str_size]; omega) k (by rw [str_size]; omega), Option.bind_some, bs_str, bs_str, bs_str, mbxOne_is _ (by rw [str_size]; show (showB x).length ≤ 50000; omega), Option.bind_some, bs_str, show oneL (showB (x.1, x.2.1, x.2.2)) = (x, 0) from one_shown hgx, if_pos (by omega), if_neg (by simp)]
    simp only []
    rw [if_pos trivial, if_neg (by simp), addrRight_is _ _ (by rw [str_size]; omega) (by rw [str_size]; omega) k (by rw [str_size]; omega), Option.bind_some, hgx.2, if_pos rfl, wrap_succ i (by omega)]
    exact ih
theorem MbxBack (s : ByteArray) : ∃ k, bulletinlaw14_MbxBack.f k s = some true := by
  refine ⟨100000, ?_⟩
  generalize hk : (100000 : Nat) = K
  unfold bulletinlaw14_MbxBack.f
  rw [works14 K (by omega), Option.bind_some, if_pos rfl]
  by_cases h1 : (s.size : Int) > 2000
  · rw [if_pos h1]
  rw [if_neg h1, mbxRead_is s (by omega), Option.bind_some]
  have hl := readL_len100 (bs s)
  have hno := @readL_none (bs s)
  obtain ⟨⟨p, e⟩, hx⟩ : ∃ x, readL (bs s) = x := ⟨_, rfl⟩
  rw [hx] at hl hno ⊢
  simp only [] at hl hno ⊢
  obtain ⟨K, rfl⟩ : ∃ j, K = j + 3 := ⟨K - 3, by omega⟩
  by_cases he : e = 0
  case neg =>
    rw [if_neg he, bulletinlaw14_MbxBack.j0, if_pos rfl, hno he]
    rfl
  subst he
  rw [if_pos rfl, List.length_map]
  by_cases h0 : p.length = 0
  · rw [show ((p.length : Int) == 0) = true from beq_iff_eq.2 (by omega), bulletinlaw14_MbxBack.j0, if_pos rfl, List.length_map, h0]
    rfl
  have hne : p ≠ [] := fun q => h0 (by rw [q]; rfl)
  have hg := readL_good hx
  have hw := readL_wt hx
  rw [bs_length] at hw
  have hsh := shown_length p hg
  have hsz : (Lib.join (p.map showB) [44, 32]).length ≤ 50000 := by
    have : p.length * 261 ≤ 100 * 261 := Nat.mul_le_mul_right _ hl
    omega
  rw [show ((p.length : Int) == 0) = false from beq_eq_false_iff_ne.2 (by omega), bulletinlaw14_MbxBack.j0, if_neg (by decide), mbxShowAll_is 4000 (by omega) p (fun x hx => by
      have := good_parts (hg x hx)
      have := wt_mem hx
      omega) (by omega) (K + 2) (by omega), Option.bind_some, mbxRead_is _ (by rw [str_size]; omega), Option.bind_some, bs_str, readL_shown p hne hg hl]
  simp only [List.length_map]
  rw [if_pos trivial, show ((p.length : Int) != (p.length : Int)) = false by simp, bulletinlaw14_MbxBack.j1, if_neg (by decide), List.length_map]
  exact back_l0 p hg (by omega) hl p 0 (K + 1) rfl (Nat.zero_le _) (by omega)
end Go.Proofs.YtbjbpgmjijeppaaDoor.Pl
