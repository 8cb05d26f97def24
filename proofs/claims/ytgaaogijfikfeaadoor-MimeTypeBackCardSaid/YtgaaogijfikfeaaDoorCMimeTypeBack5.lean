/- A part of the proof of this sentence: the tables of unicode/utf8 are as the program's text lays them. -/
import Derived.Test.YtgaaogijfikfeaaDoorCMimeTypeBack4
namespace Go.Proofs.YtgaaogijfikfeaaDoor.Fn
open Go.RowKit Go.Proofs.YtgaaogijfikfeaaDoorW.PrintWords Go.Proofs.YtgaaogijfikfeaaDoorW.PrintLast Go.Proofs.YtgaaogijfikfeaaDoorW.PrintMore
attribute [local go_sem] max2_int min2_int max_two min_two max_three min_three max_four min_four
set_option linter.unusedVariables false
set_option linter.unusedSimpArgs false

/-! ### bulletinlaw20_MimeTypeBack: function 15 -/
mutual
def bulletinlaw20_MimeTypeBack.j0 : Nat → ByteArray → Bool → ByteArray → List (S154) → Option (Bool)
 | 0, _, _, _, _ => none
 | k + 1, x1, x20, x856000, x856001 => if x20 = true then (some true) else ((bulletinlaw20_To.f k x856000 x856001).bind fun bt858 => ((mime_Type_Text.f k bt858.1 bt858.2).bind fun t862 => ((mime_ReadType.f k t862).bind fun bt863 => ((bulletinref20_RightType.f k x856000 x856001).bind fun t869 => (if t869 = true then (if bt863.2.2 = 0 then ((bulletinlaw20_Same.f k bt863.1 bt863.2.1 x856000 x856001).bind fun t870 => (bulletinlaw20_MimeTypeBack.j1 k x1 (!t870))) else (bulletinlaw20_MimeTypeBack.j1 k x1 true)) else (bulletinlaw20_MimeTypeBack.j1 k x1 false))))))
def bulletinlaw20_MimeTypeBack.j1 : Nat → ByteArray → Bool → Option (Bool)
 | 0, _, _ => none
 | k + 1, x1, x39 => if x39 = true then (some false) else ((mime_ReadType.f k x1).bind fun bt871 => (if bt871.2.2 = 0 then ((mime_Type_Text.f k bt871.1 bt871.2.1).bind fun t877 => ((mime_ReadType.f k t877).bind fun bt878 => (if bt878.2.2 = 0 then (if bt878.1.toList = bt871.1.toList then ((mime_Type_Text.f k bt878.1 bt878.2.1).bind fun t884 => ((mime_Type_Text.f k bt871.1 bt871.2.1).bind fun t885 => (some (t884.toList == t885.toList)))) else (some false)) else (some false)))) else (if bt871.1.toList = ([] : List UInt8) then (some ((bt871.2.1.length : Int) == 0)) else (some false))))
end
def bulletinlaw20_MimeTypeBack.f (k : Nat) (a0_0 : ByteArray) (l0_1 : List (S154)) (a1 : ByteArray) : Option (Bool) := (bulletinlaw20_works.f k).bind fun t856 => (if t856 = true then ((bulletinlaw20_light.f k a0_0 l0_1).bind fun t857 => (if t857 = true then (bulletinlaw20_MimeTypeBack.j0 k a1 (decide ((a1.size : Int) > 1000)) a0_0 l0_1) else (bulletinlaw20_MimeTypeBack.j0 k a1 true a0_0 l0_1))) else (some false))
def bulletinlaw20_MimeTypeBack.T12 : Bool × List (List Nat × List Nat) := (true, [([], []), ([0], [0]), ([1], [1]), ([2], [2]), ([3, 2], [2, 3]), ([2], [2]), ([5, 2], [2, 5]), ([4, 6, 2], [2, 4, 6]), ([2, 7], [2, 7]), ([8, 2], [8]), ([9], [9]), ([10, 9, 9], [9, 10]), ([9], [9]), ([12, 11, 9], [9, 12]), ([11, 13, 9], [9, 11, 13]), ([9, 14], [9, 14]), ([15, 13, 0, 1, 2, 3, 4, 5, 6, 7, 8, 9, 10, 11, 12, 13, 14, 15], [15])])
def bulletinlaw20_MimeTypeBack.B12 : List Nat := [0, 1, 3, 7, 15, 7, 39, 127, 255, 511, 1023, 2047, 1023, 8191, 16383, 32767, 65535]
theorem bulletinlaw20_MimeTypeBack.tab12 : rtab .any (opsOf Tryd.f15 12) = bulletinlaw20_MimeTypeBack.T12 := by kernel_rfl
theorem bulletinlaw20_MimeTypeBack.bits12 : waitsOk bulletinlaw20_MimeTypeBack.T12.2 bulletinlaw20_MimeTypeBack.B12 = true := by kernel_rfl
set_option maxHeartbeats 8000000 in
set_option maxRecDepth 100000 in
theorem bulletinlaw20_MimeTypeBack.calls (k : Nat) (a0_0 : ByteArray) (A0_1 : Option Addr) (c0_1 : Nat) (l0_1 : List (S154)) (a1 : ByteArray) (r : Bool) (w : World) (hG : Glob w) (hr0_1 : Kd.C k154 w A0_1 l0_1.length l0_1) (hc0_1 : l0_1.length ≤ c0_1) (h : bulletinlaw20_MimeTypeBack.f k a0_0 l0_1 a1 = some r) :
  Calls Tryd.prog 15 #[.agg #[.string a0_0, .slice A0_1 l0_1.length c0_1], .string a1] w fun e w' => e = .returned (.bool r) ∧ Below w.heap.size w w' := by
 have hu87 := Tryd.underlying87
 have hu91 := Tryd.underlying91
 have HR0_1 := Aside0.mk hr0_1
 have HC0_1 := Aside0.mk hc0_1
 clear hr0_1 hc0_1
 have HB := Aside0.mk (Below.refl w.heap.size w)
 have H : ((bulletinlaw20_works.f k).bind fun t856 => (if t856 = true then ((bulletinlaw20_light.f k a0_0 l0_1).bind fun t857 => (if t857 = true then (bulletinlaw20_MimeTypeBack.j0 k a1 (decide ((a1.size : Int) > 1000)) a0_0 l0_1) else (bulletinlaw20_MimeTypeBack.j0 k a1 true a0_0 l0_1))) else (some false))) = some r := h
 clear h
 replace H := Option.bind_eq_some_iff.mp H
 obtain ⟨t856, A30, H⟩ := H
 replace H : (if t856 = true then ((bulletinlaw20_light.f k a0_0 l0_1).bind fun t857 => (if t857 = true then (bulletinlaw20_MimeTypeBack.j0 k a1 (decide ((a1.size : Int) > 1000)) a0_0 l0_1) else (bulletinlaw20_MimeTypeBack.j0 k a1 true a0_0 l0_1))) else (some false)) = some r := H
 have A3 := Aside0.mk A30
 clear A30
 by_cases c4 : t856 = true
 ·subst c4
  have H1 : ((bulletinlaw20_light.f k a0_0 l0_1).bind fun t857 => (if t857 = true then (bulletinlaw20_MimeTypeBack.j0 k a1 (decide ((a1.size : Int) > 1000)) a0_0 l0_1) else (bulletinlaw20_MimeTypeBack.j0 k a1 true a0_0 l0_1))) = some r := by rw [if_pos rfl] at H; exact H
  clear H
  have H := H1
  clear H1
  have HC5 := Aside0.mk H
  clear H
  go_enter Tryd.func15, Tryd.ntmps15
  go_upto_region 3 with (first | ((with_reducible refine gate_dst (N := 2) rfl ?_); (try (refine gate_guard (by rfl) ?_; dsimp only)); refine box_event ?hg (N := 2) ?hd (cs := #[.string a0_0, .slice A0_1 l0_1.length c0_1]) (t := 87) ?hr ?_; (case hd => rfl); (case hg => rfl); (case hr => first | (go_simp; done) | (go_simp; rfl)); intro gb855 hg w6 hbox hb; have n0_ := Aside0.mk (below_step bw hb); have n1_ := Aside0.mk (hbox); have n2_ := Aside0.mk ((by rw [hg]; exact (below_size bw) : w.heap.size ≤ gb855)); have n3_ := Aside0.mk ((by rw [hg]; exact (below_size bw) : w.heap.size ≤ gb855)); clear HB; have HB := n0_; have BK855 := n1_; have GW855 := n2_; have GE855 := n3_; clear n0_ n1_ n2_ n3_; clear hb hbox hg) | ((with_reducible refine gate_callee (f := 53) rfl ?_); refine goesL_ (some 11) rfl rfl Tryd.func53 (by kernel_rfl) rfl #[] rfl am ?_; (with_reducible refine (bulletinlaw20_works.calls (hG := by first | exact hG | exact Glob.below hG (by first | exact HB.out | (repeat (first | (with_reducible first | exact HB.out | apply below_alloc | apply pw_below_drewN | apply below_drew1 | refine below_set ?_ GE855.out | refine below_set ?_ GE868.out | refine below_set ?_ GE876.out | refine below_set ?_ GE883.out) | exact HB.out))) | exact Glob.drawn hG (by repeat (first | exact Drawn0.refl _ | apply Drawn0.step))) k  true _ A3.out).mono ?_); rintro e w7 ⟨rfl, hb⟩; refine ⟨_, rfl, ?_⟩; have n0_ := Aside0.mk (blk_below (g := gb855) (o := .cells #[.string a0_0, .slice A0_1 l0_1.length c0_1] 87 (0, 0)) bk hb); have n1_ := Aside0.mk (below_step bwS hb); clear BK855; clear HB; have BK855 := n0_; have HB := n1_; clear n0_ n1_; (try clear hb); (try clear hb2); (try clear hk); (try clear hi)))
  (try simp only [Act.put, List.setIfInBounds_toArray, List.set_cons_zero, List.set_cons_succ])
  go_cut [20] (fun v20 wc => ∃ (kq : Nat) (x20_4 : Bool), v20 = .bool x20_4 ∧ Aside0 (bulletinlaw20_MimeTypeBack.j0 kq a1 x20_4 a0_0 l0_1 = some r) ∧ Aside0 (kq ≤ k) ∧ Aside0 (wc.heap[gb855]? = some (.cells #[.string a0_0, (.slice A0_1 l0_1.length c0_1)] 87 (0, 0))) ∧ Aside0 (Below w.heap.size w wc))
  case first =>
   have H := HC5.out
   clear HC5
   replace H := Option.bind_eq_some_iff.mp H
   obtain ⟨t857, A80, H⟩ := H
   replace H : (if t857 = true then (bulletinlaw20_MimeTypeBack.j0 k a1 (decide ((a1.size : Int) > 1000)) a0_0 l0_1) else (bulletinlaw20_MimeTypeBack.j0 k a1 true a0_0 l0_1)) = some r := H
   have A8 := Aside0.mk A80
   clear A80
   by_cases c9 : t857 = true
   ·subst c9
    have H1 : (bulletinlaw20_MimeTypeBack.j0 k a1 (decide ((a1.size : Int) > 1000)) a0_0 l0_1) = some r := by rw [if_pos rfl] at H; exact H
    clear H
    have H := H1
    clear H1
    have H' := Aside0.mk H
    clear H
    have hcz10_0 : w7.cell? ⟨gb855, 0, none⟩ = some (.string a0_0) := (blk_cell BK855.out 0).trans rfl
    have hcz10_1 : w7.cell? ⟨gb855, 1, none⟩ = some (.slice A0_1 l0_1.length c0_1) := (blk_cell BK855.out 1).trans rfl
    have hfz10_0 := blk_frozen BK855.out 0
    have hfz10_1 := blk_frozen BK855.out 1
    go_wp2_with (first | ((with_reducible refine gate_callee (f := 52) rfl ?_); refine goesL_ (some 14) rfl rfl Tryd.func52 (by kernel_rfl) rfl #[.agg #[.string a0_0, .slice A0_1 l0_1.length c0_1]] rfl am ?_; (with_reducible refine (bulletinlaw20_light.calls k a0_0 _ _ l0_1 true _ ?side1 ?side2 A8.out).mono ?_); (case side1 => repeat (first | exact (Kd.C_below HR0_1.out HB.out) | (with_reducible refine Kd.C_alloc ?_ _) | (with_reducible refine Kd.C_drewN ?_ _) | (with_reducible refine Kd.C_drew ?_))); (case side2 => exact HC0_1.out); rintro e w11 ⟨rfl, hb⟩; refine ⟨_, rfl, ?_⟩; have n0_ := Aside0.mk (blk_below (g := gb855) (o := .cells #[.string a0_0, .slice A0_1 l0_1.length c0_1] 87 (0, 0)) bk hb); have n1_ := Aside0.mk (below_step bwS hb); clear BK855; clear HB; have BK855 := n0_; have HB := n1_; clear n0_ n1_; (try clear hb); (try clear hb2); (try clear hk); (try clear hi)))
    go_meet
    case rel => exact ⟨_, (decide ((a1.size : Int) > 1000)), cl, H', ⟨by first | omega | exact Nat.le_refl _⟩, ⟨bk⟩, ⟨bwS⟩⟩
   ·replace c9 := Bool.eq_false_iff.mpr c9
    subst c9
    have H1 : (bulletinlaw20_MimeTypeBack.j0 k a1 true a0_0 l0_1) = some r := by rw [if_neg (show ¬ (false = true) by decide)] at H; exact H
    clear H
    have H := H1
    clear H1
    have H' := Aside0.mk H
    clear H
    have hcz12_0 : w7.cell? ⟨gb855, 0, none⟩ = some (.string a0_0) := (blk_cell BK855.out 0).trans rfl
    have hcz12_1 : w7.cell? ⟨gb855, 1, none⟩ = some (.slice A0_1 l0_1.length c0_1) := (blk_cell BK855.out 1).trans rfl
    have hfz12_0 := blk_frozen BK855.out 0
    have hfz12_1 := blk_frozen BK855.out 1
    go_wp2_with (first | ((with_reducible refine gate_callee (f := 52) rfl ?_); refine goesL_ (some 14) rfl rfl Tryd.func52 (by kernel_rfl) rfl #[.agg #[.string a0_0, .slice A0_1 l0_1.length c0_1]] rfl am ?_; (with_reducible refine (bulletinlaw20_light.calls k a0_0 _ _ l0_1 false _ ?side1 ?side2 A8.out).mono ?_); (case side1 => repeat (first | exact (Kd.C_below HR0_1.out HB.out) | (with_reducible refine Kd.C_alloc ?_ _) | (with_reducible refine Kd.C_drewN ?_ _) | (with_reducible refine Kd.C_drew ?_))); (case side2 => exact HC0_1.out); rintro e w13 ⟨rfl, hb⟩; refine ⟨_, rfl, ?_⟩; have n0_ := Aside0.mk (blk_below (g := gb855) (o := .cells #[.string a0_0, .slice A0_1 l0_1.length c0_1] 87 (0, 0)) bk hb); have n1_ := Aside0.mk (below_step bwS hb); clear BK855; clear HB; have BK855 := n0_; have HB := n1_; clear n0_ n1_; (try clear hb); (try clear hb2); (try clear hk); (try clear hi)))
    go_meet
    case rel => exact ⟨_, (true), cl, H', ⟨by first | omega | exact Nat.le_refl _⟩, ⟨bk⟩, ⟨bwS⟩⟩
  case rest =>
   clear HC5
   try clear c1
   try clear p2
   try clear c4
   try clear c5
   try clear c9
   try clear hcz10_0
   try clear hcz10_1
   try clear hcz12_0
   try clear hcz12_1
   try clear hfz10_0
   try clear hfz10_1
   try clear hfz12_0
   try clear hfz12_1
   obtain ⟨kq, x20_4, rfl, HA, HJ4, BK855, HB⟩ := hcut
   cases kq with
   | zero => exact absurd HA.out (by simp [bulletinlaw20_MimeTypeBack.j0])
   | succ kj4 =>
    have H := HA.out
    clear HA
    simp only [bulletinlaw20_MimeTypeBack.j0] at H
    by_cases c14 : x20_4 = true
    ·subst c14
     have H1 : (some true) = some r := by rw [if_pos rfl] at H; exact H
     clear H
     have H := H1
     clear H1
     obtain rfl := Option.some.inj H
     go_wp2
     go_ret
     exact ⟨by first | rfl | (simp [errW_none, errW_some] <;> rfl) | (simp [*, errW_none, errW_some] <;> rfl), bwS⟩
    ·replace c14 := Bool.eq_false_iff.mpr c14
     subst c14
     have H1 : ((bulletinlaw20_To.f kj4 a0_0 l0_1).bind fun bt858 => ((mime_Type_Text.f kj4 bt858.1 bt858.2).bind fun t862 => ((mime_ReadType.f kj4 t862).bind fun bt863 => ((bulletinref20_RightType.f kj4 a0_0 l0_1).bind fun t869 => (if t869 = true then (if bt863.2.2 = 0 then ((bulletinlaw20_Same.f kj4 bt863.1 bt863.2.1 a0_0 l0_1).bind fun t870 => (bulletinlaw20_MimeTypeBack.j1 kj4 a1 (!t870))) else (bulletinlaw20_MimeTypeBack.j1 kj4 a1 true)) else (bulletinlaw20_MimeTypeBack.j1 kj4 a1 false)))))) = some r := by rw [if_neg (show ¬ (false = true) by decide)] at H; exact H
     clear H
     have H := H1
     clear H1
     replace H := Option.bind_eq_some_iff.mp H
     obtain ⟨⟨t858, t859⟩, A150, H⟩ := H
     replace H : ((mime_Type_Text.f kj4 t858 t859).bind fun t862 => ((mime_ReadType.f kj4 t862).bind fun bt863 => ((bulletinref20_RightType.f kj4 a0_0 l0_1).bind fun t869 => (if t869 = true then (if bt863.2.2 = 0 then ((bulletinlaw20_Same.f kj4 bt863.1 bt863.2.1 a0_0 l0_1).bind fun t870 => (bulletinlaw20_MimeTypeBack.j1 kj4 a1 (!t870))) else (bulletinlaw20_MimeTypeBack.j1 kj4 a1 true)) else (bulletinlaw20_MimeTypeBack.j1 kj4 a1 false))))) = some r := H
     have A15 := Aside0.mk A150
     clear A150
     replace H := Option.bind_eq_some_iff.mp H
     obtain ⟨t862, A160, H⟩ := H
     replace H : ((mime_ReadType.f kj4 t862).bind fun bt863 => ((bulletinref20_RightType.f kj4 a0_0 l0_1).bind fun t869 => (if t869 = true then (if bt863.2.2 = 0 then ((bulletinlaw20_Same.f kj4 bt863.1 bt863.2.1 a0_0 l0_1).bind fun t870 => (bulletinlaw20_MimeTypeBack.j1 kj4 a1 (!t870))) else (bulletinlaw20_MimeTypeBack.j1 kj4 a1 true)) else (bulletinlaw20_MimeTypeBack.j1 kj4 a1 false)))) = some r := H
     have A16 := Aside0.mk A160
     clear A160
     replace H := Option.bind_eq_some_iff.mp H
     obtain ⟨⟨t863, t864, t867⟩, A170, H⟩ := H
     replace H : ((bulletinref20_RightType.f kj4 a0_0 l0_1).bind fun t869 => (if t869 = true then (if t867 = 0 then ((bulletinlaw20_Same.f kj4 t863 t864 a0_0 l0_1).bind fun t870 => (bulletinlaw20_MimeTypeBack.j1 kj4 a1 (!t870))) else (bulletinlaw20_MimeTypeBack.j1 kj4 a1 true)) else (bulletinlaw20_MimeTypeBack.j1 kj4 a1 false))) = some r := H
     have A17 := Aside0.mk A170
     clear A170
     have HC18 := Aside0.mk H
     clear H
     have hcz19_0 : wc.cell? ⟨gb855, 0, none⟩ = some (.string a0_0) := (blk_cell BK855.out 0).trans rfl
     have hcz19_1 : wc.cell? ⟨gb855, 1, none⟩ = some (.slice A0_1 l0_1.length c0_1) := (blk_cell BK855.out 1).trans rfl
     have hfz19_0 := blk_frozen BK855.out 0
     have hfz19_1 := blk_frozen BK855.out 1
     go_upto_region 6 with (first | ((with_reducible refine gate_callee (f := 57) rfl ?_); refine goesL_ (some 23) rfl rfl Tryd.func57 (by kernel_rfl) rfl #[.agg #[.string a0_0, .slice A0_1 l0_1.length c0_1]] rfl am ?_; (with_reducible refine (bulletinlaw20_To.calls kj4 a0_0 _ _ l0_1 t858 t859 _ ?side1 ?side2 A15.out).mono ?_); (case side1 => repeat (first | exact (Kd.C_below HR0_1.out HB.out) | (with_reducible refine Kd.C_alloc ?_ _) | (with_reducible refine Kd.C_drewN ?_ _) | (with_reducible refine Kd.C_drew ?_))); (case side2 => exact HC0_1.out); rintro e w20 ⟨v860, rfl, ho0, hb⟩; refine ⟨_, rfl, ?_⟩; have n0_ := Aside0.mk (Kd.R_lower ho0 (below_size bwS)); have n1_ := Aside0.mk (blk_below (g := gb855) (o := .cells #[.string a0_0, .slice A0_1 l0_1.length c0_1] 87 (0, 0)) bk hb); have n2_ := Aside0.mk (below_step bwS hb); clear BK855; clear HB; have HO861 := n0_; have BK855 := n1_; have HB := n2_; clear n0_ n1_ n2_; (try clear hb); (try clear hb2); (try clear hk); (try clear hi); (try clear ho0); obtain ⟨Ao21, co21, eo21⟩ := Kd.R_slice HO861.out; subst eo21) | ((with_reducible refine gate_callee (f := 60) rfl ?_); refine goesL_ (some 24) rfl rfl Tryd.func60 (by kernel_rfl) rfl #[.agg #[.string t858, .slice Ao21 t859.length co21]] rfl am ?_; (with_reducible refine (mime_Type_Text.calls (hG := by first | exact hG | exact Glob.below hG (by first | exact HB.out | (repeat (first | (with_reducible first | exact HB.out | apply below_alloc | apply pw_below_drewN | apply below_drew1 | refine below_set ?_ GE855.out | refine below_set ?_ GE868.out | refine below_set ?_ GE876.out | refine below_set ?_ GE883.out) | exact HB.out))) | exact Glob.drawn hG (by repeat (first | exact Drawn0.refl _ | apply Drawn0.step))) kj4 t858 _ _ t859 t862 _ ?side1 ?side2 A16.out).mono ?_); (case side1 => repeat (first | exact (Kd.R_reads' HO861.out).2.2 | (with_reducible refine Kd.C_alloc ?_ _) | (with_reducible refine Kd.C_drewN ?_ _) | (with_reducible refine Kd.C_drew ?_))); (case side2 => exact (Kd.R_reads' HO861.out).2.1); rintro e w22 ⟨rfl, hb⟩; refine ⟨_, rfl, ?_⟩; have n0_ := Aside0.mk (Kd.R_below (by (with_reducible repeat (first | apply Kd.R_alloc | apply Kd.R_drewN | apply Kd.R_drew)); exact HO861.out) hb); have n1_ := Aside0.mk (blk_below (g := gb855) (o := .cells #[.string a0_0, .slice A0_1 l0_1.length c0_1] 87 (0, 0)) bk hb); have n2_ := Aside0.mk (below_step bwS hb); clear HO861; clear BK855; clear HB; have HO861 := n0_; have BK855 := n1_; have HB := n2_; clear n0_ n1_ n2_; (try clear hb); (try clear hb2); (try clear hk); (try clear hi)) | ((with_reducible refine gate_callee (f := 54) rfl ?_); refine goesL_ (some 25) rfl rfl Tryd.func54 (by kernel_rfl) rfl #[.string t862] rfl am ?_; (with_reducible refine (mime_ReadType.calls (hG := by first | exact hG | exact Glob.below hG (by first | exact HB.out | (repeat (first | (with_reducible first | exact HB.out | apply below_alloc | apply pw_below_drewN | apply below_drew1 | refine below_set ?_ GE855.out | refine below_set ?_ GE868.out | refine below_set ?_ GE876.out | refine below_set ?_ GE883.out) | exact HB.out))) | exact Glob.drawn hG (by repeat (first | exact Drawn0.refl _ | apply Drawn0.step))) kj4 t862 t863 t864 t867 _ A17.out).mono ?_); rintro e w23 ⟨v865, rfl, ho0, hb⟩; refine ⟨_, rfl, ?_⟩; have n0_ := Aside0.mk (Kd.R_elder' (by (with_reducible repeat (first | apply Kd.R_alloc | apply Kd.R_drewN | apply Kd.R_drew)); exact HO861.out) (Kd.R_base ho0) hb); have n1_ := Aside0.mk (Kd.R_lower (Kd.R_new' ho0 (Kd.R_lt (by (with_reducible repeat (first | apply Kd.R_alloc | apply Kd.R_drewN | apply Kd.R_drew)); exact HO861.out))) (below_size bwS)); have n2_ := Aside0.mk (blk_below (g := gb855) (o := .cells #[.string a0_0, .slice A0_1 l0_1.length c0_1] 87 (0, 0)) bk hb); have n3_ := Aside0.mk (below_step bwS hb); clear HO861; clear BK855; clear HB; have HO861 := n0_; have HO866 := n1_; have BK855 := n2_; have HB := n3_; clear n0_ n1_ n2_ n3_; (try clear hb); (try clear hb2); (try clear hk); (try clear hi); (try clear ho0)) | ((with_reducible refine gate_dst (N := 5) rfl ?_); (try (refine gate_guard (by rfl) ?_; dsimp only)); refine box_event ?hg (N := 5) ?hd (cs := #[.string (⟨#[]⟩ : ByteArray), .slice none 0 0]) (t := 91) ?hr ?_; (case hd => rfl); (case hg => rfl); (case hr => first | (go_simp; done) | (go_simp; rfl)); intro gb868 hg w24 hbox hb; have n0_ := Aside0.mk (Kd.R_below (by (with_reducible repeat (first | apply Kd.R_alloc | apply Kd.R_drewN | apply Kd.R_drew)); exact HO861.out) hb); have n1_ := Aside0.mk (Kd.R_below (by (with_reducible repeat (first | apply Kd.R_alloc | apply Kd.R_drewN | apply Kd.R_drew)); exact HO866.out) hb); have n2_ := Aside0.mk (blk_below (g := gb855) (o := .cells #[.string a0_0, .slice A0_1 l0_1.length c0_1] 87 (0, 0)) bk hb); have n3_ := Aside0.mk (below_step bwS hb); have n4_ := Aside0.mk (hbox); have n5_ := Aside0.mk ((by rw [hg]; exact (below_size bwS) : w.heap.size ≤ gb868)); have n6_ := Aside0.mk ((by rw [hg]; exact (below_size bwS) : w.heap.size ≤ gb868)); have n7_ := Aside0.mk ((by rw [hg]; exact Nat.ne_of_lt (blk_lt (g := gb855) (o := .cells #[.string a0_0, .slice A0_1 l0_1.length c0_1] 87 (0, 0)) bk) : gb855 ≠ gb868)); have n8_ := Aside0.mk ((by rw [hg]; exact Nat.ne_of_gt (blk_lt (g := gb855) (o := .cells #[.string a0_0, .slice A0_1 l0_1.length c0_1] 87 (0, 0)) bk) : gb868 ≠ gb855)); clear HO861; clear HO866; clear BK855; clear HB; have HO861 := n0_; have HO866 := n1_; have BK855 := n2_; have HB := n3_; have BK868 := n4_; have GW868 := n5_; have GE868 := n6_; have NB855_868 := n7_; have NB868_855 := n8_; clear n0_ n1_ n2_ n3_ n4_ n5_ n6_ n7_ n8_; clear hb hbox hg; have hnb25 := NB868_855.out; have hnc25 := NB855_868.out; have hcz26_0 : w24.cell? ⟨gb868, 0, none⟩ = some (.string (⟨#[]⟩ : ByteArray)) := (blk_cell BK868.out 0).trans rfl; have hcz26_1 : w24.cell? ⟨gb868, 1, none⟩ = some (.slice none 0 0) := (blk_cell BK868.out 1).trans rfl; have hfz26_0 := blk_frozen BK868.out 0; have hfz26_1 := blk_frozen BK868.out 1; obtain ⟨Ao27, co27, eo27⟩ := Kd.R_slice HO866.out; subst eo27))
     (try simp only [Act.put, List.setIfInBounds_toArray, List.set_cons_zero, List.set_cons_succ])
     go_cut [39] (fun v39 wc => ∃ (kq : Nat) (x39_17 : Bool), v39 = .bool x39_17 ∧ Aside0 (bulletinlaw20_MimeTypeBack.j1 kq a1 x39_17 = some r) ∧ Aside0 (kq ≤ kj4) ∧ Aside0 (Kd.R k158 158 wc w.heap.size (fun _ => True) (.slice Ao27 t864.length co27) t864) ∧ Aside0 (wc.heap[gb855]? = some (.cells #[.string a0_0, (.slice A0_1 l0_1.length c0_1)] 87 (0, 0))) ∧ Aside0 (wc.heap[gb868]? = some (.cells #[.string t863, (.slice Ao27 t864.length co27)] 91 (0, 0))) ∧ Aside0 (Below w.heap.size w wc))
     case first =>
      have H := HC18.out
      clear HC18
      replace H := Option.bind_eq_some_iff.mp H
      obtain ⟨t869, A280, H⟩ := H
      replace H : (if t869 = true then (if t867 = 0 then ((bulletinlaw20_Same.f kj4 t863 t864 a0_0 l0_1).bind fun t870 => (bulletinlaw20_MimeTypeBack.j1 kj4 a1 (!t870))) else (bulletinlaw20_MimeTypeBack.j1 kj4 a1 true)) else (bulletinlaw20_MimeTypeBack.j1 kj4 a1 false)) = some r := H
      have A28 := Aside0.mk A280
      clear A280
      by_cases c29 : t869 = true
      ·subst c29
       have H1 : (if t867 = 0 then ((bulletinlaw20_Same.f kj4 t863 t864 a0_0 l0_1).bind fun t870 => (bulletinlaw20_MimeTypeBack.j1 kj4 a1 (!t870))) else (bulletinlaw20_MimeTypeBack.j1 kj4 a1 true)) = some r := by rw [if_pos rfl] at H; exact H
       clear H
       have H := H1
       clear H1
       by_cases c30 : t867 = 0
       ·rw [if_pos c30] at H
        have c30b0 : (t867 == 0) = true := beq_iff_eq.mpr c30
        have c30b1 : (t867 != 0) = false := bne_eq_false_iff_eq.mpr c30
        clear c30
        (first | rw [c30b0] | (simp only [i64_w, i32_w]; rw [c30b0]) | skip)
        replace H := Option.bind_eq_some_iff.mp H
        obtain ⟨t870, A310, H⟩ := H
        replace H : (bulletinlaw20_MimeTypeBack.j1 kj4 a1 (!t870)) = some r := H
        have A31 := Aside0.mk A310
        clear A310
        have H' := Aside0.mk H
        clear H
        have hnb32 := NB855_868.out
        have hnc32 := NB868_855.out
        have hcz33_0 : w24.cell? ⟨gb855, 0, none⟩ = some (.string a0_0) := (blk_cell BK855.out 0).trans rfl
        have hcz33_1 : w24.cell? ⟨gb855, 1, none⟩ = some (.slice A0_1 l0_1.length c0_1) := (blk_cell BK855.out 1).trans rfl
        have hfz33_0 := blk_frozen BK855.out 0
        have hfz33_1 := blk_frozen BK855.out 1
        go_wp2_with (first | ((with_reducible refine gate_callee (f := 64) rfl ?_); refine goesL_ (some 29) rfl rfl Tryd.func64 (by kernel_rfl) rfl #[.agg #[.string a0_0, .slice A0_1 l0_1.length c0_1]] rfl am ?_; (with_reducible refine (bulletinref20_RightType.calls kj4 a0_0 _ _ l0_1 true _ ?side1 ?side2 A28.out).mono ?_); (case side1 => exact Kd.C_below HR0_1.out bwS); (case side2 => exact HC0_1.out); rintro e w34 ⟨rfl, hb⟩; refine ⟨_, rfl, ?_⟩; have n0_ := Aside0.mk (Kd.R_below (by (with_reducible repeat (first | apply Kd.R_alloc | apply Kd.R_drewN | apply Kd.R_drew)); exact (Kd.R_mono (Kd.R_far (p := ⟨gb868, 1, none⟩) (Kd.R_far (p := ⟨gb868, 0, none⟩) (Kd.R_types HO861.out BK868.out (by decide)) (fun _ hk => hk.2) (.string t863)) (fun _ hk => hk.2) (.slice Ao27 t864.length co27)) (fun _ h_ => h_.1))) hb); have n1_ := Aside0.mk (Kd.R_below (by (with_reducible repeat (first | apply Kd.R_alloc | apply Kd.R_drewN | apply Kd.R_drew)); exact (Kd.R_mono (Kd.R_far (p := ⟨gb868, 1, none⟩) (Kd.R_far (p := ⟨gb868, 0, none⟩) (Kd.R_types HO866.out BK868.out (by decide)) (fun _ hk => hk.2) (.string t863)) (fun _ hk => hk.2) (.slice Ao27 t864.length co27)) (fun _ h_ => h_.1))) hb); have n2_ := Aside0.mk (blk_below (g := gb855) (o := .cells #[.string a0_0, .slice A0_1 l0_1.length c0_1] 87 (0, 0)) (by (with_reducible repeat (first | refine blk_drewN ?_ _ | refine blk_drew ?_ | refine blk_alloc ?_ _)); refine blk_far ?_ NB855_868.out _; (with_reducible repeat (first | refine blk_drewN ?_ _ | refine blk_drew ?_ | refine blk_alloc ?_ _)); refine blk_far ?_ NB855_868.out _; (with_reducible repeat (first | refine blk_drewN ?_ _ | refine blk_drew ?_ | refine blk_alloc ?_ _)); exact BK855.out) hb); have n3_ := Aside0.mk (blk_below (g := gb868) (o := .cells #[.string t863, .slice Ao27 t864.length co27] 91 (0, 0)) (by (with_reducible repeat (first | refine blk_drewN ?_ _ | refine blk_drew ?_ | refine blk_alloc ?_ _)); refine blk_put (cs := #[.string t863, .slice none 0 0]) ?_ 1 _ rfl; (with_reducible repeat (first | refine blk_drewN ?_ _ | refine blk_drew ?_ | refine blk_alloc ?_ _)); refine blk_put (cs := #[.string (⟨#[]⟩ : ByteArray), .slice none 0 0]) ?_ 0 _ rfl; (with_reducible repeat (first | refine blk_drewN ?_ _ | refine blk_drew ?_ | refine blk_alloc ?_ _)); exact BK868.out) hb); have n4_ := Aside0.mk (below_step bwS hb); clear HO861; clear HO866; clear BK855; clear BK868; clear HB; have HO861 := n0_; have HO866 := n1_; have BK855 := n2_; have BK868 := n3_; have HB := n4_; clear n0_ n1_ n2_ n3_ n4_; (try clear hb); (try clear hb2); (try clear hk); (try clear hi); have hcz35_0 : w34.cell? ⟨gb868, 0, none⟩ = some (.string t863) := (blk_cell BK868.out 0).trans rfl; have hcz35_1 : w34.cell? ⟨gb868, 1, none⟩ = some (.slice Ao27 t864.length co27) := (blk_cell BK868.out 1).trans rfl; have hfz35_0 := blk_frozen BK868.out 0; have hfz35_1 := blk_frozen BK868.out 1; have hcz36_0 : w34.cell? ⟨gb855, 0, none⟩ = some (.string a0_0) := (blk_cell BK855.out 0).trans rfl; have hcz36_1 : w34.cell? ⟨gb855, 1, none⟩ = some (.slice A0_1 l0_1.length c0_1) := (blk_cell BK855.out 1).trans rfl; have hfz36_0 := blk_frozen BK855.out 0; have hfz36_1 := blk_frozen BK855.out 1) | (go_at_call 56; (with_reducible refine (bulletinlaw20_Same.calls kj4 t863 _ _ t864 a0_0 _ _ l0_1 t870 _ ?side1 ?side2 ?side3 ?side4 A31.out).mono ?_); (case side1 => repeat (first | exact (Kd.R_reads' HO866.out).2.2 | (with_reducible refine Kd.C_alloc ?_ _) | (with_reducible refine Kd.C_drewN ?_ _) | (with_reducible refine Kd.C_drew ?_))); (case side2 => exact (Kd.R_reads' HO866.out).2.1); (case side3 => repeat (first | exact (Kd.C_below HR0_1.out HB.out) | (with_reducible refine Kd.C_alloc ?_ _) | (with_reducible refine Kd.C_drewN ?_ _) | (with_reducible refine Kd.C_drew ?_))); (case side4 => exact HC0_1.out); rintro e w37 ⟨rfl, hb⟩; have n0_ := Aside0.mk (Kd.R_below (by (with_reducible repeat (first | apply Kd.R_alloc | apply Kd.R_drewN | apply Kd.R_drew)); exact HO861.out) hb); have n1_ := Aside0.mk (Kd.R_below (by (with_reducible repeat (first | apply Kd.R_alloc | apply Kd.R_drewN | apply Kd.R_drew)); exact HO866.out) hb); have n2_ := Aside0.mk (blk_below (g := gb855) (o := .cells #[.string a0_0, .slice A0_1 l0_1.length c0_1] 87 (0, 0)) bk hb); have n3_ := Aside0.mk (blk_below (g := gb868) (o := .cells #[.string t863, .slice Ao27 t864.length co27] 91 (0, 0)) bk hb); have n4_ := Aside0.mk (below_step bwS hb); clear HO861; clear HO866; clear BK855; clear BK868; clear HB; have HO861 := n0_; have HO866 := n1_; have BK855 := n2_; have BK868 := n3_; have HB := n4_; clear n0_ n1_ n2_ n3_ n4_; (try clear hb); (try clear hb2); (try clear hk); (try clear hi)))
        go_meet
        case rel => exact ⟨_, (!t870), cl, H', ⟨by have := HJ4.out; first | omega | exact Nat.le_refl _⟩, ⟨by (with_reducible repeat (first | apply Kd.R_alloc | apply Kd.R_drewN | apply Kd.R_drew)); exact Kd.R_mono HO866.out (fun _ hk => trivial)⟩, ⟨bk⟩, ⟨bk⟩, ⟨bwS⟩⟩
       ·rw [if_neg c30] at H
        have c30b0 : (t867 == 0) = false := beq_eq_false_iff_ne.mpr c30
        have c30b1 : (t867 != 0) = true := bne_iff_ne.mpr c30
        (first | rw [c30b0] | (simp only [i64_w, i32_w]; rw [c30b0]) | skip)
        have H' := Aside0.mk H
        clear H
        have hnb38 := NB855_868.out
        have hnc38 := NB868_855.out
        have hcz39_0 : w24.cell? ⟨gb855, 0, none⟩ = some (.string a0_0) := (blk_cell BK855.out 0).trans rfl
        have hcz39_1 : w24.cell? ⟨gb855, 1, none⟩ = some (.slice A0_1 l0_1.length c0_1) := (blk_cell BK855.out 1).trans rfl
        have hfz39_0 := blk_frozen BK855.out 0
        have hfz39_1 := blk_frozen BK855.out 1
        go_wp2_with (first | ((with_reducible refine gate_callee (f := 64) rfl ?_); refine goesL_ (some 29) rfl rfl Tryd.func64 (by kernel_rfl) rfl #[.agg #[.string a0_0, .slice A0_1 l0_1.length c0_1]] rfl am ?_; (with_reducible refine (bulletinref20_RightType.calls kj4 a0_0 _ _ l0_1 true _ ?side1 ?side2 A28.out).mono ?_); (case side1 => exact Kd.C_below HR0_1.out bwS); (case side2 => exact HC0_1.out); rintro e w40 ⟨rfl, hb⟩; refine ⟨_, rfl, ?_⟩; have n0_ := Aside0.mk (Kd.R_below (by (with_reducible repeat (first | apply Kd.R_alloc | apply Kd.R_drewN | apply Kd.R_drew)); exact (Kd.R_mono (Kd.R_far (p := ⟨gb868, 1, none⟩) (Kd.R_far (p := ⟨gb868, 0, none⟩) (Kd.R_types HO861.out BK868.out (by decide)) (fun _ hk => hk.2) (.string t863)) (fun _ hk => hk.2) (.slice Ao27 t864.length co27)) (fun _ h_ => h_.1))) hb); have n1_ := Aside0.mk (Kd.R_below (by (with_reducible repeat (first | apply Kd.R_alloc | apply Kd.R_drewN | apply Kd.R_drew)); exact (Kd.R_mono (Kd.R_far (p := ⟨gb868, 1, none⟩) (Kd.R_far (p := ⟨gb868, 0, none⟩) (Kd.R_types HO866.out BK868.out (by decide)) (fun _ hk => hk.2) (.string t863)) (fun _ hk => hk.2) (.slice Ao27 t864.length co27)) (fun _ h_ => h_.1))) hb); have n2_ := Aside0.mk (blk_below (g := gb855) (o := .cells #[.string a0_0, .slice A0_1 l0_1.length c0_1] 87 (0, 0)) (by (with_reducible repeat (first | refine blk_drewN ?_ _ | refine blk_drew ?_ | refine blk_alloc ?_ _)); refine blk_far ?_ NB855_868.out _; (with_reducible repeat (first | refine blk_drewN ?_ _ | refine blk_drew ?_ | refine blk_alloc ?_ _)); refine blk_far ?_ NB855_868.out _; (with_reducible repeat (first | refine blk_drewN ?_ _ | refine blk_drew ?_ | refine blk_alloc ?_ _)); exact BK855.out) hb); have n3_ := Aside0.mk (blk_below (g := gb868) (o := .cells #[.string t863, .slice Ao27 t864.length co27] 91 (0, 0)) (by (with_reducible repeat (first | refine blk_drewN ?_ _ | refine blk_drew ?_ | refine blk_alloc ?_ _)); refine blk_put (cs := #[.string t863, .slice none 0 0]) ?_ 1 _ rfl; (with_reducible repeat (first | refine blk_drewN ?_ _ | refine blk_drew ?_ | refine blk_alloc ?_ _)); refine blk_put (cs := #[.string (⟨#[]⟩ : ByteArray), .slice none 0 0]) ?_ 0 _ rfl; (with_reducible repeat (first | refine blk_drewN ?_ _ | refine blk_drew ?_ | refine blk_alloc ?_ _)); exact BK868.out) hb); have n4_ := Aside0.mk (below_step bwS hb); clear HO861; clear HO866; clear BK855; clear BK868; clear HB; have HO861 := n0_; have HO866 := n1_; have BK855 := n2_; have BK868 := n3_; have HB := n4_; clear n0_ n1_ n2_ n3_ n4_; (try clear hb); (try clear hb2); (try clear hk); (try clear hi)))
        go_meet
        case rel => exact ⟨_, (true), cl, H', ⟨by have := HJ4.out; first | omega | exact Nat.le_refl _⟩, ⟨by (with_reducible repeat (first | apply Kd.R_alloc | apply Kd.R_drewN | apply Kd.R_drew)); exact Kd.R_mono HO866.out (fun _ hk => trivial)⟩, ⟨bk⟩, ⟨bk⟩, ⟨bwS⟩⟩
      ·replace c29 := Bool.eq_false_iff.mpr c29
       subst c29
       have H1 : (bulletinlaw20_MimeTypeBack.j1 kj4 a1 false) = some r := by rw [if_neg (show ¬ (false = true) by decide)] at H; exact H
       clear H
       have H := H1
       clear H1
       have H' := Aside0.mk H
       clear H
       have hnb41 := NB855_868.out
       have hnc41 := NB868_855.out
       have hcz42_0 : w24.cell? ⟨gb855, 0, none⟩ = some (.string a0_0) := (blk_cell BK855.out 0).trans rfl
       have hcz42_1 : w24.cell? ⟨gb855, 1, none⟩ = some (.slice A0_1 l0_1.length c0_1) := (blk_cell BK855.out 1).trans rfl
       have hfz42_0 := blk_frozen BK855.out 0
       have hfz42_1 := blk_frozen BK855.out 1
       go_wp2_with (first | ((with_reducible refine gate_callee (f := 64) rfl ?_); refine goesL_ (some 29) rfl rfl Tryd.func64 (by kernel_rfl) rfl #[.agg #[.string a0_0, .slice A0_1 l0_1.length c0_1]] rfl am ?_; (with_reducible refine (bulletinref20_RightType.calls kj4 a0_0 _ _ l0_1 false _ ?side1 ?side2 A28.out).mono ?_); (case side1 => exact Kd.C_below HR0_1.out bwS); (case side2 => exact HC0_1.out); rintro e w43 ⟨rfl, hb⟩; refine ⟨_, rfl, ?_⟩; have n0_ := Aside0.mk (Kd.R_below (by (with_reducible repeat (first | apply Kd.R_alloc | apply Kd.R_drewN | apply Kd.R_drew)); exact (Kd.R_mono (Kd.R_far (p := ⟨gb868, 1, none⟩) (Kd.R_far (p := ⟨gb868, 0, none⟩) (Kd.R_types HO861.out BK868.out (by decide)) (fun _ hk => hk.2) (.string t863)) (fun _ hk => hk.2) (.slice Ao27 t864.length co27)) (fun _ h_ => h_.1))) hb); have n1_ := Aside0.mk (Kd.R_below (by (with_reducible repeat (first | apply Kd.R_alloc | apply Kd.R_drewN | apply Kd.R_drew)); exact (Kd.R_mono (Kd.R_far (p := ⟨gb868, 1, none⟩) (Kd.R_far (p := ⟨gb868, 0, none⟩) (Kd.R_types HO866.out BK868.out (by decide)) (fun _ hk => hk.2) (.string t863)) (fun _ hk => hk.2) (.slice Ao27 t864.length co27)) (fun _ h_ => h_.1))) hb); have n2_ := Aside0.mk (blk_below (g := gb855) (o := .cells #[.string a0_0, .slice A0_1 l0_1.length c0_1] 87 (0, 0)) (by (with_reducible repeat (first | refine blk_drewN ?_ _ | refine blk_drew ?_ | refine blk_alloc ?_ _)); refine blk_far ?_ NB855_868.out _; (with_reducible repeat (first | refine blk_drewN ?_ _ | refine blk_drew ?_ | refine blk_alloc ?_ _)); refine blk_far ?_ NB855_868.out _; (with_reducible repeat (first | refine blk_drewN ?_ _ | refine blk_drew ?_ | refine blk_alloc ?_ _)); exact BK855.out) hb); have n3_ := Aside0.mk (blk_below (g := gb868) (o := .cells #[.string t863, .slice Ao27 t864.length co27] 91 (0, 0)) (by (with_reducible repeat (first | refine blk_drewN ?_ _ | refine blk_drew ?_ | refine blk_alloc ?_ _)); refine blk_put (cs := #[.string t863, .slice none 0 0]) ?_ 1 _ rfl; (with_reducible repeat (first | refine blk_drewN ?_ _ | refine blk_drew ?_ | refine blk_alloc ?_ _)); refine blk_put (cs := #[.string (⟨#[]⟩ : ByteArray), .slice none 0 0]) ?_ 0 _ rfl; (with_reducible repeat (first | refine blk_drewN ?_ _ | refine blk_drew ?_ | refine blk_alloc ?_ _)); exact BK868.out) hb); have n4_ := Aside0.mk (below_step bwS hb); clear HO861; clear HO866; clear BK855; clear BK868; clear HB; have HO861 := n0_; have HO866 := n1_; have BK855 := n2_; have BK868 := n3_; have HB := n4_; clear n0_ n1_ n2_ n3_ n4_; (try clear hb); (try clear hb2); (try clear hk); (try clear hi)))
       go_meet
       case rel => exact ⟨_, (false), cl, H', ⟨by have := HJ4.out; first | omega | exact Nat.le_refl _⟩, ⟨by (with_reducible repeat (first | apply Kd.R_alloc | apply Kd.R_drewN | apply Kd.R_drew)); exact Kd.R_mono HO866.out (fun _ hk => trivial)⟩, ⟨bk⟩, ⟨bk⟩, ⟨bwS⟩⟩
     case rest =>
      clear HC18
      try clear c1
      try clear c2
      try clear p2
      try clear c3
      try clear c4
      try clear c5
      try clear c6
      try clear c9
      try clear c14
      try clear c15
      try clear c25
      try clear c29
      try clear c30
      try clear c30b0
      try clear c30b1
      try clear c32
      try clear c38
      try clear c41
      try clear hcz10_0
      try clear hcz10_1
      try clear hcz12_0
      try clear hcz12_1
      try clear hcz19_0
      try clear hcz19_1
      try clear hcz26_0
      try clear hcz26_1
      try clear hcz33_0
      try clear hcz33_1
      try clear hcz35_0
      try clear hcz35_1
      try clear hcz36_0
      try clear hcz36_1
      try clear hcz39_0
      try clear hcz39_1
      try clear hcz42_0
      try clear hcz42_1
      try clear hfz10_0
      try clear hfz10_1
      try clear hfz12_0
      try clear hfz12_1
      try clear hfz19_0
      try clear hfz19_1
      try clear hfz26_0
      try clear hfz26_1
      try clear hfz33_0
      try clear hfz33_1
      try clear hfz35_0
      try clear hfz35_1
      try clear hfz36_0
      try clear hfz36_1
      try clear hfz39_0
      try clear hfz39_1
      try clear hfz42_0
      try clear hfz42_1
      try clear p2
      obtain ⟨kq, x39_17, rfl, HA, HJ17, HO_869001, BK855, BK868, HB⟩ := hcut
      cases kq with
      | zero => exact absurd HA.out (by simp [bulletinlaw20_MimeTypeBack.j1])
      | succ kj17 =>
       have H := HA.out
       clear HA
       simp only [bulletinlaw20_MimeTypeBack.j1] at H
       by_cases c44 : x39_17 = true
       ·subst c44
        have H1 : (some false) = some r := by rw [if_pos rfl] at H; exact H
        clear H
        have H := H1
        clear H1
        obtain rfl := Option.some.inj H
        go_wp2
        go_ret
        exact ⟨by first | rfl | (simp [errW_none, errW_some] <;> rfl) | (simp [*, errW_none, errW_some] <;> rfl), bwS⟩
       ·replace c44 := Bool.eq_false_iff.mpr c44
        subst c44
        have H1 : ((mime_ReadType.f kj17 a1).bind fun bt871 => (if bt871.2.2 = 0 then ((mime_Type_Text.f kj17 bt871.1 bt871.2.1).bind fun t877 => ((mime_ReadType.f kj17 t877).bind fun bt878 => (if bt878.2.2 = 0 then (if bt878.1.toList = bt871.1.toList then ((mime_Type_Text.f kj17 bt878.1 bt878.2.1).bind fun t884 => ((mime_Type_Text.f kj17 bt871.1 bt871.2.1).bind fun t885 => (some (t884.toList == t885.toList)))) else (some false)) else (some false)))) else (if bt871.1.toList = ([] : List UInt8) then (some ((bt871.2.1.length : Int) == 0)) else (some false)))) = some r := by rw [if_neg (show ¬ (false = true) by decide)] at H; exact H
        clear H
        have H := H1
        clear H1
        replace H := Option.bind_eq_some_iff.mp H
        obtain ⟨⟨t871, t872, t875⟩, A450, H⟩ := H
        replace H : (if t875 = 0 then ((mime_Type_Text.f kj17 t871 t872).bind fun t877 => ((mime_ReadType.f kj17 t877).bind fun bt878 => (if bt878.2.2 = 0 then (if bt878.1.toList = t871.toList then ((mime_Type_Text.f kj17 bt878.1 bt878.2.1).bind fun t884 => ((mime_Type_Text.f kj17 t871 t872).bind fun t885 => (some (t884.toList == t885.toList)))) else (some false)) else (some false)))) else (if t871.toList = ([] : List UInt8) then (some ((t872.length : Int) == 0)) else (some false))) = some r := H
        have A45 := Aside0.mk A450
        clear A450
        by_cases c46 : t875 = 0
        ·rw [if_pos c46] at H
         have c46b0 : (t875 == 0) = true := beq_iff_eq.mpr c46
         have c46b1 : (t875 != 0) = false := bne_eq_false_iff_eq.mpr c46
         clear c46
         replace H := Option.bind_eq_some_iff.mp H
         obtain ⟨t877, A470, H⟩ := H
         replace H : ((mime_ReadType.f kj17 t877).bind fun bt878 => (if bt878.2.2 = 0 then (if bt878.1.toList = t871.toList then ((mime_Type_Text.f kj17 bt878.1 bt878.2.1).bind fun t884 => ((mime_Type_Text.f kj17 t871 t872).bind fun t885 => (some (t884.toList == t885.toList)))) else (some false)) else (some false))) = some r := H
         have A47 := Aside0.mk A470
         clear A470
         replace H := Option.bind_eq_some_iff.mp H
         obtain ⟨⟨t878, t879, t882⟩, A480, H⟩ := H
         replace H : (if t882 = 0 then (if t878.toList = t871.toList then ((mime_Type_Text.f kj17 t878 t879).bind fun t884 => ((mime_Type_Text.f kj17 t871 t872).bind fun t885 => (some (t884.toList == t885.toList)))) else (some false)) else (some false)) = some r := H
         have A48 := Aside0.mk A480
         clear A480
         by_cases c49 : t882 = 0
         ·rw [if_pos c49] at H
          have c49b0 : (t882 == 0) = true := beq_iff_eq.mpr c49
          have c49b1 : (t882 != 0) = false := bne_eq_false_iff_eq.mpr c49
          clear c49
          by_cases c50 : t878.toList = t871.toList
          ·rw [if_pos c50] at H
           have c50b0 : (t878.toList == t871.toList) = true := beq_iff_eq.mpr c50
           have c50b1 : (t878.toList != t871.toList) = false := bne_eq_false_iff_eq.mpr c50
           clear c50
           replace H := Option.bind_eq_some_iff.mp H
           obtain ⟨t884, A510, H⟩ := H
           replace H : ((mime_Type_Text.f kj17 t871 t872).bind fun t885 => (some (t884.toList == t885.toList))) = some r := H
           have A51 := Aside0.mk A510
           clear A510
           replace H := Option.bind_eq_some_iff.mp H
           obtain ⟨t885, A520, H⟩ := H
           replace H : (some (t884.toList == t885.toList)) = some r := H
           have A52 := Aside0.mk A520
           clear A520
           obtain rfl := Option.some.inj H
           try go_wp2_with (first | ((with_reducible refine gate_callee (f := 54) rfl ?_); refine goesL_ (some 42) rfl rfl Tryd.func54 (by kernel_rfl) rfl #[.string a1] rfl am ?_; (with_reducible refine (mime_ReadType.calls (hG := by first | exact hG | exact Glob.below hG (by first | exact HB.out | (repeat (first | (with_reducible first | exact HB.out | apply below_alloc | apply pw_below_drewN | apply below_drew1 | refine below_set ?_ GE855.out | refine below_set ?_ GE868.out | refine below_set ?_ GE876.out | refine below_set ?_ GE883.out) | exact HB.out))) | exact Glob.drawn hG (by repeat (first | exact Drawn0.refl _ | apply Drawn0.step))) kj17 a1 t871 t872 t875 _ A45.out).mono ?_); rintro e w53 ⟨v873, rfl, ho0, hb⟩; refine ⟨_, rfl, ?_⟩; have n0_ := Aside0.mk (Kd.R_elder' (by (with_reducible repeat (first | apply Kd.R_alloc | apply Kd.R_drewN | apply Kd.R_drew)); exact HO_869001.out) (Kd.R_base ho0) hb); have n1_ := Aside0.mk (Kd.R_lower (Kd.R_new' ho0 (Kd.R_lt (by (with_reducible repeat (first | apply Kd.R_alloc | apply Kd.R_drewN | apply Kd.R_drew)); exact HO_869001.out))) (below_size bwS)); have n2_ := Aside0.mk (blk_below (g := gb855) (o := .cells #[.string a0_0, .slice A0_1 l0_1.length c0_1] 87 (0, 0)) bk hb); have n3_ := Aside0.mk (blk_below (g := gb868) (o := .cells #[.string t863, .slice Ao27 t864.length co27] 91 (0, 0)) bk hb); have n4_ := Aside0.mk (below_step bwS hb); clear HO_869001; clear BK855; clear BK868; clear HB; have HO_869001 := n0_; have HO874 := n1_; have BK855 := n2_; have BK868 := n3_; have HB := n4_; clear n0_ n1_ n2_ n3_ n4_; (try clear hb); (try clear hb2); (try clear hk); (try clear hi); (try clear ho0)) | ((with_reducible refine gate_dst (N := 7) rfl ?_); (try (refine gate_guard (by rfl) ?_; dsimp only)); refine box_event ?hg (N := 7) ?hd (cs := #[.string (⟨#[]⟩ : ByteArray), .slice none 0 0]) (t := 91) ?hr ?_; (case hd => rfl); (case hg => rfl); (case hr => first | (go_simp; done) | (go_simp; rfl)); intro gb876 hg w54 hbox hb; have n0_ := Aside0.mk (Kd.R_below (by (with_reducible repeat (first | apply Kd.R_alloc | apply Kd.R_drewN | apply Kd.R_drew)); exact HO_869001.out) hb); have n1_ := Aside0.mk (Kd.R_below (by (with_reducible repeat (first | apply Kd.R_alloc | apply Kd.R_drewN | apply Kd.R_drew)); exact HO874.out) hb); have n2_ := Aside0.mk (blk_below (g := gb855) (o := .cells #[.string a0_0, .slice A0_1 l0_1.length c0_1] 87 (0, 0)) bk hb); have n3_ := Aside0.mk (blk_below (g := gb868) (o := .cells #[.string t863, .slice Ao27 t864.length co27] 91 (0, 0)) bk hb); have n4_ := Aside0.mk (below_step bwS hb); have n5_ := Aside0.mk (hbox); have n6_ := Aside0.mk ((by rw [hg]; exact (below_size bwS) : w.heap.size ≤ gb876)); have n7_ := Aside0.mk ((by rw [hg]; exact (below_size bwS) : w.heap.size ≤ gb876)); have n8_ := Aside0.mk ((by rw [hg]; exact Nat.ne_of_lt (blk_lt (g := gb855) (o := .cells #[.string a0_0, .slice A0_1 l0_1.length c0_1] 87 (0, 0)) bk) : gb855 ≠ gb876)); have n9_ := Aside0.mk ((by rw [hg]; exact Nat.ne_of_gt (blk_lt (g := gb855) (o := .cells #[.string a0_0, .slice A0_1 l0_1.length c0_1] 87 (0, 0)) bk) : gb876 ≠ gb855)); have n10_ := Aside0.mk ((by rw [hg]; exact Nat.ne_of_lt (blk_lt (g := gb868) (o := .cells #[.string t863, .slice Ao27 t864.length co27] 91 (0, 0)) bk) : gb868 ≠ gb876)); have n11_ := Aside0.mk ((by rw [hg]; exact Nat.ne_of_gt (blk_lt (g := gb868) (o := .cells #[.string t863, .slice Ao27 t864.length co27] 91 (0, 0)) bk) : gb876 ≠ gb868)); clear HO_869001; clear HO874; clear BK855; clear BK868; clear HB; have HO_869001 := n0_; have HO874 := n1_; have BK855 := n2_; have BK868 := n3_; have HB := n4_; have BK876 := n5_; have GW876 := n6_; have GE876 := n7_; have NB855_876 := n8_; have NB876_855 := n9_; have NB868_876 := n10_; have NB876_868 := n11_; clear n0_ n1_ n2_ n3_ n4_ n5_ n6_ n7_ n8_ n9_ n10_ n11_; clear hb hbox hg; have hnb55 := NB876_855.out; have hnc55 := NB855_876.out; have hnb56 := NB876_868.out; have hnc56 := NB868_876.out; have hcz57_0 : w54.cell? ⟨gb876, 0, none⟩ = some (.string (⟨#[]⟩ : ByteArray)) := (blk_cell BK876.out 0).trans rfl; have hcz57_1 : w54.cell? ⟨gb876, 1, none⟩ = some (.slice none 0 0) := (blk_cell BK876.out 1).trans rfl; have hfz57_0 := blk_frozen BK876.out 0; have hfz57_1 := blk_frozen BK876.out 1; obtain ⟨Ao58, co58, eo58⟩ := Kd.R_slice HO874.out; subst eo58) | ((with_reducible refine gate_callee (f := 60) rfl ?_); refine goesL_ (some 58) rfl rfl Tryd.func60 (by kernel_rfl) rfl #[.agg #[.string t871, .slice Ao58 t872.length co58]] rfl am ?_; (with_reducible refine (mime_Type_Text.calls (hG := by first | exact hG | exact Glob.below hG (by first | exact HB.out | (repeat (first | (with_reducible first | exact HB.out | apply below_alloc | apply pw_below_drewN | apply below_drew1 | refine below_set ?_ GE855.out | refine below_set ?_ GE868.out | refine below_set ?_ GE876.out | refine below_set ?_ GE883.out) | exact HB.out))) | exact Glob.drawn hG (by repeat (first | exact Drawn0.refl _ | apply Drawn0.step))) kj17 t871 _ _ t872 t877 _ ?side1 ?side2 A47.out).mono ?_); (case side1 => refine (Kd.R_reads' (e := 158) (base := w.heap.size) (ok := fun k_ => (True ∧ some k_ ≠ (.slice Ao27 t864.length co27 : Value).ownBlock)) (n := t872.length) (c := co58) ?_).2.2; exact (by (with_reducible repeat (first | apply Kd.R_alloc | apply Kd.R_drewN | apply Kd.R_drew)); exact (Kd.R_mono (Kd.R_far (p := ⟨gb876, 1, none⟩) (Kd.R_far (p := ⟨gb876, 0, none⟩) (Kd.R_types HO874.out BK876.out (by decide)) (fun _ hk => hk.2) (.string t871)) (fun _ hk => hk.2) (.slice Ao58 t872.length co58)) (fun _ h_ => h_.1)))); (case side2 => exact (Kd.R_reads' HO874.out).2.1); rintro e w59 ⟨rfl, hb⟩; refine ⟨_, rfl, ?_⟩; have n0_ := Aside0.mk (Kd.R_below (by (with_reducible repeat (first | apply Kd.R_alloc | apply Kd.R_drewN | apply Kd.R_drew)); exact (Kd.R_mono (Kd.R_far (p := ⟨gb876, 1, none⟩) (Kd.R_far (p := ⟨gb876, 0, none⟩) (Kd.R_types HO_869001.out BK876.out (by decide)) (fun _ hk => hk.2) (.string t871)) (fun _ hk => hk.2) (.slice Ao58 t872.length co58)) (fun _ h_ => h_.1))) hb); have n1_ := Aside0.mk (Kd.R_below (by (with_reducible repeat (first | apply Kd.R_alloc | apply Kd.R_drewN | apply Kd.R_drew)); exact (Kd.R_mono (Kd.R_far (p := ⟨gb876, 1, none⟩) (Kd.R_far (p := ⟨gb876, 0, none⟩) (Kd.R_types HO874.out BK876.out (by decide)) (fun _ hk => hk.2) (.string t871)) (fun _ hk => hk.2) (.slice Ao58 t872.length co58)) (fun _ h_ => h_.1))) hb); have n2_ := Aside0.mk (blk_below (g := gb855) (o := .cells #[.string a0_0, .slice A0_1 l0_1.length c0_1] 87 (0, 0)) (by (with_reducible repeat (first | refine blk_drewN ?_ _ | refine blk_drew ?_ | refine blk_alloc ?_ _)); refine blk_far ?_ NB855_876.out _; (with_reducible repeat (first | refine blk_drewN ?_ _ | refine blk_drew ?_ | refine blk_alloc ?_ _)); refine blk_far ?_ NB855_876.out _; (with_reducible repeat (first | refine blk_drewN ?_ _ | refine blk_drew ?_ | refine blk_alloc ?_ _)); exact BK855.out) hb); have n3_ := Aside0.mk (blk_below (g := gb868) (o := .cells #[.string t863, .slice Ao27 t864.length co27] 91 (0, 0)) (by (with_reducible repeat (first | refine blk_drewN ?_ _ | refine blk_drew ?_ | refine blk_alloc ?_ _)); refine blk_far ?_ NB868_876.out _; (with_reducible repeat (first | refine blk_drewN ?_ _ | refine blk_drew ?_ | refine blk_alloc ?_ _)); refine blk_far ?_ NB868_876.out _; (with_reducible repeat (first | refine blk_drewN ?_ _ | refine blk_drew ?_ | refine blk_alloc ?_ _)); exact BK868.out) hb); have n4_ := Aside0.mk (blk_below (g := gb876) (o := .cells #[.string t871, .slice Ao58 t872.length co58] 91 (0, 0)) (by (with_reducible repeat (first | refine blk_drewN ?_ _ | refine blk_drew ?_ | refine blk_alloc ?_ _)); refine blk_put (cs := #[.string t871, .slice none 0 0]) ?_ 1 _ rfl; (with_reducible repeat (first | refine blk_drewN ?_ _ | refine blk_drew ?_ | refine blk_alloc ?_ _)); refine blk_put (cs := #[.string (⟨#[]⟩ : ByteArray), .slice none 0 0]) ?_ 0 _ rfl; (with_reducible repeat (first | refine blk_drewN ?_ _ | refine blk_drew ?_ | refine blk_alloc ?_ _)); exact BK876.out) hb); have n5_ := Aside0.mk (below_step bwS hb); clear HO_869001; clear HO874; clear BK855; clear BK868; clear BK876; clear HB; have HO_869001 := n0_; have HO874 := n1_; have BK855 := n2_; have BK868 := n3_; have BK876 := n4_; have HB := n5_; clear n0_ n1_ n2_ n3_ n4_ n5_; (try clear hb); (try clear hb2); (try clear hk); (try clear hi)) | ((with_reducible refine gate_callee (f := 54) rfl ?_); refine goesL_ (some 59) rfl rfl Tryd.func54 (by kernel_rfl) rfl #[.string t877] rfl am ?_; (with_reducible refine (mime_ReadType.calls (hG := by first | exact hG | exact Glob.below hG (by first | exact HB.out | (repeat (first | (with_reducible first | exact HB.out | apply below_alloc | apply pw_below_drewN | apply below_drew1 | refine below_set ?_ GE855.out | refine below_set ?_ GE868.out | refine below_set ?_ GE876.out | refine below_set ?_ GE883.out) | exact HB.out))) | exact Glob.drawn hG (by repeat (first | exact Drawn0.refl _ | apply Drawn0.step))) kj17 t877 t878 t879 t882 _ A48.out).mono ?_); rintro e w60 ⟨v880, rfl, ho0, hb⟩; refine ⟨_, rfl, ?_⟩; have n0_ := Aside0.mk (Kd.R_elder' (by (with_reducible repeat (first | apply Kd.R_alloc | apply Kd.R_drewN | apply Kd.R_drew)); exact HO_869001.out) (Kd.R_base ho0) hb); have n1_ := Aside0.mk (Kd.R_elder' (by (with_reducible repeat (first | apply Kd.R_alloc | apply Kd.R_drewN | apply Kd.R_drew)); exact HO874.out) (Kd.R_base ho0) hb); have n2_ := Aside0.mk (Kd.R_lower (Kd.R_new' (Kd.R_new' ho0 (Kd.R_lt (by (with_reducible repeat (first | apply Kd.R_alloc | apply Kd.R_drewN | apply Kd.R_drew)); exact HO_869001.out))) (Kd.R_lt (by (with_reducible repeat (first | apply Kd.R_alloc | apply Kd.R_drewN | apply Kd.R_drew)); exact HO874.out))) (below_size bwS)); have n3_ := Aside0.mk (blk_below (g := gb855) (o := .cells #[.string a0_0, .slice A0_1 l0_1.length c0_1] 87 (0, 0)) bk hb); have n4_ := Aside0.mk (blk_below (g := gb868) (o := .cells #[.string t863, .slice Ao27 t864.length co27] 91 (0, 0)) bk hb); have n5_ := Aside0.mk (blk_below (g := gb876) (o := .cells #[.string t871, .slice Ao58 t872.length co58] 91 (0, 0)) bk hb); have n6_ := Aside0.mk (below_step bwS hb); clear HO_869001; clear HO874; clear BK855; clear BK868; clear BK876; clear HB; have HO_869001 := n0_; have HO874 := n1_; have HO881 := n2_; have BK855 := n3_; have BK868 := n4_; have BK876 := n5_; have HB := n6_; clear n0_ n1_ n2_ n3_ n4_ n5_ n6_; (try clear hb); (try clear hb2); (try clear hk); (try clear hi); (try clear ho0)) | ((with_reducible refine gate_dst (N := 9) rfl ?_); (try (refine gate_guard (by rfl) ?_; dsimp only)); refine box_event ?hg (N := 9) ?hd (cs := #[.string (⟨#[]⟩ : ByteArray), .slice none 0 0]) (t := 91) ?hr ?_; (case hd => rfl); (case hg => rfl); (case hr => first | (go_simp; done) | (go_simp; rfl)); intro gb883 hg w61 hbox hb; have n0_ := Aside0.mk (Kd.R_below (by (with_reducible repeat (first | apply Kd.R_alloc | apply Kd.R_drewN | apply Kd.R_drew)); exact HO_869001.out) hb); have n1_ := Aside0.mk (Kd.R_below (by (with_reducible repeat (first | apply Kd.R_alloc | apply Kd.R_drewN | apply Kd.R_drew)); exact HO874.out) hb); have n2_ := Aside0.mk (Kd.R_below (by (with_reducible repeat (first | apply Kd.R_alloc | apply Kd.R_drewN | apply Kd.R_drew)); exact HO881.out) hb); have n3_ := Aside0.mk (blk_below (g := gb855) (o := .cells #[.string a0_0, .slice A0_1 l0_1.length c0_1] 87 (0, 0)) bk hb); have n4_ := Aside0.mk (blk_below (g := gb868) (o := .cells #[.string t863, .slice Ao27 t864.length co27] 91 (0, 0)) bk hb); have n5_ := Aside0.mk (blk_below (g := gb876) (o := .cells #[.string t871, .slice Ao58 t872.length co58] 91 (0, 0)) bk hb); have n6_ := Aside0.mk (below_step bwS hb); have n7_ := Aside0.mk (hbox); have n8_ := Aside0.mk ((by rw [hg]; exact (below_size bwS) : w.heap.size ≤ gb883)); have n9_ := Aside0.mk ((by rw [hg]; exact (below_size bwS) : w.heap.size ≤ gb883)); have n10_ := Aside0.mk ((by rw [hg]; exact Nat.ne_of_lt (blk_lt (g := gb855) (o := .cells #[.string a0_0, .slice A0_1 l0_1.length c0_1] 87 (0, 0)) bk) : gb855 ≠ gb883)); have n11_ := Aside0.mk ((by rw [hg]; exact Nat.ne_of_gt (blk_lt (g := gb855) (o := .cells #[.string a0_0, .slice A0_1 l0_1.length c0_1] 87 (0, 0)) bk) : gb883 ≠ gb855)); have n12_ := Aside0.mk ((by rw [hg]; exact Nat.ne_of_lt (blk_lt (g := gb868) (o := .cells #[.string t863, .slice Ao27 t864.length co27] 91 (0, 0)) bk) : gb868 ≠ gb883)); have n13_ := Aside0.mk ((by rw [hg]; exact Nat.ne_of_gt (blk_lt (g := gb868) (o := .cells #[.string t863, .slice Ao27 t864.length co27] 91 (0, 0)) bk) : gb883 ≠ gb868)); have n14_ := Aside0.mk ((by rw [hg]; exact Nat.ne_of_lt (blk_lt (g := gb876) (o := .cells #[.string t871, .slice Ao58 t872.length co58] 91 (0, 0)) bk) : gb876 ≠ gb883)); have n15_ := Aside0.mk ((by rw [hg]; exact Nat.ne_of_gt (blk_lt (g := gb876) (o := .cells #[.string t871, .slice Ao58 t872.length co58] 91 (0, 0)) bk) : gb883 ≠ gb876)); clear HO_869001; clear HO874; clear HO881; clear BK855; clear BK868; clear BK876; clear HB; have HO_869001 := n0_; have HO874 := n1_; have HO881 := n2_; have BK855 := n3_; have BK868 := n4_; have BK876 := n5_; have HB := n6_; have BK883 := n7_; have GW883 := n8_; have GE883 := n9_; have NB855_883 := n10_; have NB883_855 := n11_; have NB868_883 := n12_; have NB883_868 := n13_; have NB876_883 := n14_; have NB883_876 := n15_; clear n0_ n1_ n2_ n3_ n4_ n5_ n6_ n7_ n8_ n9_ n10_ n11_ n12_ n13_ n14_ n15_; clear hb hbox hg; have hnb62 := NB883_855.out; have hnc62 := NB855_883.out; have hnb63 := NB883_868.out; have hnc63 := NB868_883.out; have hnb64 := NB883_876.out; have hnc64 := NB876_883.out; have hcz65_0 : w61.cell? ⟨gb883, 0, none⟩ = some (.string (⟨#[]⟩ : ByteArray)) := (blk_cell BK883.out 0).trans rfl; have hcz65_1 : w61.cell? ⟨gb883, 1, none⟩ = some (.slice none 0 0) := (blk_cell BK883.out 1).trans rfl; have hfz65_0 := blk_frozen BK883.out 0; have hfz65_1 := blk_frozen BK883.out 1; obtain ⟨Ao66, co66, eo66⟩ := Kd.R_slice HO881.out; subst eo66))
           have n0_ : Aside0 (Kd.R k158 158 ((w61.setCell ⟨gb883, 0, none⟩ (.string t878)).setCell ⟨gb883, 1, none⟩ (.slice Ao66 t879.length co66)) w.heap.size (fun k_ => some k_ ≠ (.slice Ao58 t872.length co58 : Value).ownBlock ∧ some k_ ≠ (.slice Ao66 t879.length co66 : Value).ownBlock) (.slice Ao27 t864.length co27) t864) := ⟨by (with_reducible repeat (first | apply Kd.R_alloc | apply Kd.R_drewN | apply Kd.R_drew)); exact Kd.R_mono (Kd.R_far (p := ⟨gb883, 1, none⟩) (Kd.R_far (p := ⟨gb883, 0, none⟩) (Kd.R_types HO_869001.out BK883.out (by decide)) (fun _ hk => hk.2) (.string t878)) (fun _ hk => hk.2) (.slice Ao66 t879.length co66)) (fun _ hk => ⟨hk.1.1.2, hk.1.2⟩)⟩
           have n1_ : Aside0 (Kd.R k158 158 ((w61.setCell ⟨gb883, 0, none⟩ (.string t878)).setCell ⟨gb883, 1, none⟩ (.slice Ao66 t879.length co66)) w.heap.size (fun k_ => some k_ ≠ (.slice Ao27 t864.length co27 : Value).ownBlock ∧ some k_ ≠ (.slice Ao66 t879.length co66 : Value).ownBlock) (.slice Ao58 t872.length co58) t872) := ⟨by (with_reducible repeat (first | apply Kd.R_alloc | apply Kd.R_drewN | apply Kd.R_drew)); exact Kd.R_mono (Kd.R_far (p := ⟨gb883, 1, none⟩) (Kd.R_far (p := ⟨gb883, 0, none⟩) (Kd.R_types HO874.out BK883.out (by decide)) (fun _ hk => hk.2) (.string t878)) (fun _ hk => hk.2) (.slice Ao66 t879.length co66)) (fun _ hk => ⟨hk.1.1.2, hk.1.2⟩)⟩
           have n2_ : Aside0 (Kd.R k158 158 ((w61.setCell ⟨gb883, 0, none⟩ (.string t878)).setCell ⟨gb883, 1, none⟩ (.slice Ao66 t879.length co66)) w.heap.size (fun k_ => some k_ ≠ (.slice Ao27 t864.length co27 : Value).ownBlock ∧ some k_ ≠ (.slice Ao58 t872.length co58 : Value).ownBlock) (.slice Ao66 t879.length co66) t879) := ⟨by (with_reducible repeat (first | apply Kd.R_alloc | apply Kd.R_drewN | apply Kd.R_drew)); exact Kd.R_mono (Kd.R_far (p := ⟨gb883, 1, none⟩) (Kd.R_far (p := ⟨gb883, 0, none⟩) (Kd.R_types HO881.out BK883.out (by decide)) (fun _ hk => hk.2) (.string t878)) (fun _ hk => hk.2) (.slice Ao66 t879.length co66)) (fun _ hk => ⟨hk.1.1.2, hk.1.2⟩)⟩
           have n3_ : Aside0 (((w61.setCell ⟨gb883, 0, none⟩ (.string t878)).setCell ⟨gb883, 1, none⟩ (.slice Ao66 t879.length co66)).heap[gb855]? = some (.cells #[.string a0_0, .slice A0_1 l0_1.length c0_1] 87 (0, 0))) := ⟨by (with_reducible repeat (first | refine blk_drewN ?_ _ | refine blk_drew ?_ | refine blk_alloc ?_ _)); refine blk_far ?_ NB855_883.out _; (with_reducible repeat (first | refine blk_drewN ?_ _ | refine blk_drew ?_ | refine blk_alloc ?_ _)); refine blk_far ?_ NB855_883.out _; (with_reducible repeat (first | refine blk_drewN ?_ _ | refine blk_drew ?_ | refine blk_alloc ?_ _)); exact BK855.out⟩
           have n4_ : Aside0 (((w61.setCell ⟨gb883, 0, none⟩ (.string t878)).setCell ⟨gb883, 1, none⟩ (.slice Ao66 t879.length co66)).heap[gb868]? = some (.cells #[.string t863, .slice Ao27 t864.length co27] 91 (0, 0))) := ⟨by (with_reducible repeat (first | refine blk_drewN ?_ _ | refine blk_drew ?_ | refine blk_alloc ?_ _)); refine blk_far ?_ NB868_883.out _; (with_reducible repeat (first | refine blk_drewN ?_ _ | refine blk_drew ?_ | refine blk_alloc ?_ _)); refine blk_far ?_ NB868_883.out _; (with_reducible repeat (first | refine blk_drewN ?_ _ | refine blk_drew ?_ | refine blk_alloc ?_ _)); exact BK868.out⟩
           have n5_ : Aside0 (((w61.setCell ⟨gb883, 0, none⟩ (.string t878)).setCell ⟨gb883, 1, none⟩ (.slice Ao66 t879.length co66)).heap[gb876]? = some (.cells #[.string t871, .slice Ao58 t872.length co58] 91 (0, 0))) := ⟨by (with_reducible repeat (first | refine blk_drewN ?_ _ | refine blk_drew ?_ | refine blk_alloc ?_ _)); refine blk_far ?_ NB876_883.out _; (with_reducible repeat (first | refine blk_drewN ?_ _ | refine blk_drew ?_ | refine blk_alloc ?_ _)); refine blk_far ?_ NB876_883.out _; (with_reducible repeat (first | refine blk_drewN ?_ _ | refine blk_drew ?_ | refine blk_alloc ?_ _)); exact BK876.out⟩
           have n6_ : Aside0 (((w61.setCell ⟨gb883, 0, none⟩ (.string t878)).setCell ⟨gb883, 1, none⟩ (.slice Ao66 t879.length co66)).heap[gb883]? = some (.cells #[.string t878, .slice Ao66 t879.length co66] 91 (0, 0))) := ⟨by (with_reducible repeat (first | refine blk_drewN ?_ _ | refine blk_drew ?_ | refine blk_alloc ?_ _)); refine blk_put (cs := #[.string t878, .slice none 0 0]) ?_ 1 _ rfl; (with_reducible repeat (first | refine blk_drewN ?_ _ | refine blk_drew ?_ | refine blk_alloc ?_ _)); refine blk_put (cs := #[.string (⟨#[]⟩ : ByteArray), .slice none 0 0]) ?_ 0 _ rfl; (with_reducible repeat (first | refine blk_drewN ?_ _ | refine blk_drew ?_ | refine blk_alloc ?_ _)); exact BK883.out⟩
           have n7_ : Aside0 (Below w.heap.size w ((w61.setCell ⟨gb883, 0, none⟩ (.string t878)).setCell ⟨gb883, 1, none⟩ (.slice Ao66 t879.length co66))) := ⟨bwS⟩
           (try clear HO_869001)
           (try clear HO874)
           (try clear HO881)
           (try clear BK855)
           (try clear BK868)
           (try clear BK876)
           (try clear BK883)
           (try clear HB)
           generalize ((w61.setCell ⟨gb883, 0, none⟩ (.string t878)).setCell ⟨gb883, 1, none⟩ (.slice Ao66 t879.length co66)) = w67 at n0_ n1_ n2_ n3_ n4_ n5_ n6_ n7_ ⊢
           have HO_869001 := n0_
           have HO874 := n1_
           have HO881 := n2_
           have BK855 := n3_
           have BK868 := n4_
           have BK876 := n5_
           have BK883 := n6_
           have HB := n7_
           clear n0_ n1_ n2_ n3_ n4_ n5_ n6_ n7_
           have n0_ := Aside0.mk (Kd.R_drew HO_869001.out)
           have n1_ := Aside0.mk (Kd.R_drew HO874.out)
           have n2_ := Aside0.mk (Kd.R_drew HO881.out)
           have n3_ := Aside0.mk (blk_drew BK855.out)
           have n4_ := Aside0.mk (blk_drew BK868.out)
           have n5_ := Aside0.mk (blk_drew BK876.out)
           have n6_ := Aside0.mk (blk_drew BK883.out)
           have n7_ := Aside0.mk (below_drew1 HB.out)
           clear HO_869001
           clear HO874
           clear HO881
           clear BK855
           clear BK868
           clear BK876
           clear BK883
           clear HB
           have HO_869001 := n0_
           have HO874 := n1_
           have HO881 := n2_
           have BK855 := n3_
           have BK868 := n4_
           have BK876 := n5_
           have BK883 := n6_
           have HB := n7_
           clear n0_ n1_ n2_ n3_ n4_ n5_ n6_ n7_
           refine start_ (n := 17) (S := fun w' => w'.cell? ⟨gb883, 0, none⟩ = some (.string t878) ∧ w'.cell? ⟨gb883, 1, none⟩ = some (.slice Ao66 t879.length co66) ∧ w'.cell? ⟨gb876, 0, none⟩ = some (.string t871) ∧ w'.cell? ⟨gb876, 1, none⟩ = some (.slice Ao58 t872.length co58)) (ds := []) #[false, false, false, false, false, false, false, false, false, false, false, false, false, false, false, false, false] (by kernel_rfl) rfl rfl ⟨(blk_cell BK883.out 0).trans rfl, (blk_cell BK883.out 1).trans rfl, (blk_cell BK876.out 0).trans rfl, (blk_cell BK876.out 1).trans rfl⟩ (fun hHeld => ?_); refine with_tabW bulletinlaw20_MimeTypeBack.tab12 bulletinlaw20_MimeTypeBack.bits12 (fun HT_ HW_ => ?_)
           generalize w67.drew = w68 at HO_869001 HO874 HO881 BK855 BK868 BK876 BK883 HB hHeld ⊢
           refine pure_ (i := 0) (N := some 62) (v := ?_) (a' := ?_) (bitsL 17 1) rfl rfl (any_of HT_.out (by kernel_rfl)) (fun _ _ _ h => h) (Or.inl ⟨by rfl, ?_⟩) ?_ ?_
           rotate_left
           ·intro w'
            go_simp
            with_reducible rfl
           rotate_left
           ·simp only [Act.put, List.setIfInBounds_toArray, List.set_cons_zero, List.set_cons_succ, i64_w, i32_w]
            rfl
           refine pure_ (i := 1) (N := some 63) (v := ?_) (a' := ?_) (bitsL 17 3) rfl rfl (any_of HT_.out (by kernel_rfl)) (fun _ _ _ h => h) (Or.inl ⟨by rfl, ?_⟩) ?_ ?_
           rotate_left
           ·intro w'
            go_simp
            with_reducible rfl
           rotate_left
           ·simp only [Act.put, List.setIfInBounds_toArray, List.set_cons_zero, List.set_cons_succ, i64_w, i32_w]
            rfl
           refine pure_ (i := 2) (N := some 64) (v := ?_) (a' := ?_) (bitsL 17 7) rfl rfl (any_of HT_.out (by kernel_rfl)) (fun _ _ _ h => h) (Or.inl ⟨by rfl, ?_⟩) ?_ ?_
           rotate_left
           ·intro w'
            go_simp
            with_reducible rfl
           rotate_left
           ·simp only [Act.put, List.setIfInBounds_toArray, List.set_cons_zero, List.set_cons_succ, i64_w, i32_w]
            rfl
           refine pure_ (i := 3) (N := some 65) (v := ?_) (a' := ?_) (bitsL 17 15) rfl rfl (any_of HT_.out (by kernel_rfl)) (fun _ _ _ h => h) (Or.inl ⟨by rfl, ?_⟩) ?_ ?_
           rotate_left
           ·intro w'
            go_simp
            with_reducible rfl
           rotate_left
           ·simp only [Act.put, List.setIfInBounds_toArray, List.set_cons_zero, List.set_cons_succ, i64_w, i32_w]
            rfl
           refine pure_ (i := 5) (N := some 67) (v := ?_) (a' := ?_) (bitsL 17 47) rfl rfl (any_of HT_.out (by kernel_rfl)) (fun _ _ _ h => h) (Or.inl ⟨by rfl, ?_⟩) ?_ ?_
           rotate_left
           ·intro w'
            go_simp
            with_reducible rfl
           rotate_left
           ·simp only [Act.put, List.setIfInBounds_toArray, List.set_cons_zero, List.set_cons_succ, i64_w, i32_w]
            rfl
           refine take_ (i := 4) (N := some 66) (v := ?_) (a' := ?_) (bitsL 17 63) rfl rfl (take_ofW HT_.out HW_.out (by kernel_rfl)) (fun _ _ _ h => h) (Or.inl ⟨by rfl, ?_⟩) hHeld ?_ ?_
           rotate_left
           ·rintro w' ⟨s0, s1, s2, s3⟩
            go_simp
            with_reducible rfl
           rotate_left
           ·simp only [Act.put, List.setIfInBounds_toArray, List.set_cons_zero, List.set_cons_succ, i64_w, i32_w]
            rfl
           refine take_ (i := 6) (N := some 68) (v := ?_) (a' := ?_) (bitsL 17 127) rfl rfl (take_ofW HT_.out HW_.out (by kernel_rfl)) (fun _ _ _ h => h) (Or.inl ⟨by rfl, ?_⟩) hHeld ?_ ?_
           rotate_left
           ·rintro w' ⟨s0, s1, s2, s3⟩
            go_simp
            with_reducible rfl
           rotate_left
           ·simp only [Act.put, List.setIfInBounds_toArray, List.set_cons_zero, List.set_cons_succ, i64_w, i32_w]
            rfl
           refine pure_ (i := 7) (N := some 69) (v := ?_) (a' := ?_) (bitsL 17 255) rfl rfl (any_of HT_.out (by kernel_rfl)) (fun _ _ _ h => h) (Or.inl ⟨by rfl, ?_⟩) ?_ ?_
           rotate_left
           ·intro w'
            go_simp
            with_reducible rfl
           rotate_left
           ·simp only [Act.put, List.setIfInBounds_toArray, List.set_cons_zero, List.set_cons_succ, i64_w, i32_w]
            rfl
           refine pure_ (i := 8) (N := some 70) (v := ?_) (a' := ?_) (bitsL 17 511) rfl rfl (any_of HT_.out (by kernel_rfl)) (fun _ _ _ h => h) (Or.inl ⟨by rfl, ?_⟩) ?_ ?_
           rotate_left
           ·intro w'
            go_simp
            with_reducible rfl
           rotate_left
           ·simp only [Act.put, List.setIfInBounds_toArray, List.set_cons_zero, List.set_cons_succ, i64_w, i32_w]
            rfl
           refine pure_ (i := 9) (N := some 71) (v := ?_) (a' := ?_) (bitsL 17 1023) rfl rfl (any_of HT_.out (by kernel_rfl)) (fun _ _ _ h => h) (Or.inl ⟨by rfl, ?_⟩) ?_ ?_
           rotate_left
           ·intro w'
            go_simp
            with_reducible rfl
           rotate_left
           ·simp only [Act.put, List.setIfInBounds_toArray, List.set_cons_zero, List.set_cons_succ, i64_w, i32_w]
            rfl
           refine take_ (i := 10) (N := some 72) (v := ?_) (a' := ?_) (bitsL 17 2047) rfl rfl (take_ofW HT_.out HW_.out (by kernel_rfl)) (fun _ _ _ h => h) (Or.inl ⟨by rfl, ?_⟩) hHeld ?_ ?_
           rotate_left
           ·rintro w' ⟨s0, s1, s2, s3⟩
            go_simp
            with_reducible rfl
           rotate_left
           ·simp only [Act.put, List.setIfInBounds_toArray, List.set_cons_zero, List.set_cons_succ, i64_w, i32_w]
            rfl
           refine take_ (i := 12) (N := some 74) (v := ?_) (a' := ?_) (bitsL 17 6143) rfl rfl (take_ofW HT_.out HW_.out (by kernel_rfl)) (fun _ _ _ h => h) (Or.inl ⟨by rfl, ?_⟩) hHeld ?_ ?_
           rotate_left
           ·rintro w' ⟨s0, s1, s2, s3⟩
            go_simp
            with_reducible rfl
           rotate_left
           ·simp only [Act.put, List.setIfInBounds_toArray, List.set_cons_zero, List.set_cons_succ, i64_w, i32_w]
            rfl
           refine one_ (i := 11) (N := some 73) (bitsL 17 8191) rfl rfl (one_of HT_.out (by kernel_rfl)) (by decide) (fun K hK => ?_)
           refine goes_ Tryd.func60 (by kernel_rfl) rfl #[.agg #[.string t878, .slice Ao66 t879.length co66]] (by rfl) rfl rfl am ?_
           with_reducible refine (mime_Type_Text.calls (hG := by first | exact hG | exact Glob.below hG (by first | exact HB.out | (repeat (first | (with_reducible first | exact HB.out | apply below_alloc | apply pw_below_drewN | apply below_drew1 | refine below_set ?_ GE855.out | refine below_set ?_ GE868.out | refine below_set ?_ GE876.out | refine below_set ?_ GE883.out) | exact HB.out))) | exact Glob.drawn hG (by repeat (first | exact Drawn0.refl _ | apply Drawn0.step))) kj17 t878 _ _ t879 t884 _ ?side1 ?side2 A51.out).mono ?_
           (case side1 => repeat (first | exact (Kd.R_reads' HO881.out).2.2 | (with_reducible refine Kd.C_alloc ?_ _) | (with_reducible refine Kd.C_drewN ?_ _) | (with_reducible refine Kd.C_drew ?_)))
           (case side2 => exact (Kd.R_reads' HO881.out).2.1)
           rintro e w69 ⟨rfl, hb⟩
           refine ⟨_, rfl, ?_⟩
           have n0_ := Aside0.mk (Kd.R_below (by (with_reducible repeat (first | apply Kd.R_alloc | apply Kd.R_drewN | apply Kd.R_drew)); exact HO_869001.out) hb)
           have n1_ := Aside0.mk (Kd.R_below (by (with_reducible repeat (first | apply Kd.R_alloc | apply Kd.R_drewN | apply Kd.R_drew)); exact HO874.out) hb)
           have n2_ := Aside0.mk (Kd.R_below (by (with_reducible repeat (first | apply Kd.R_alloc | apply Kd.R_drewN | apply Kd.R_drew)); exact HO881.out) hb)
           have n3_ := Aside0.mk (blk_below (g := gb855) (o := .cells #[.string a0_0, .slice A0_1 l0_1.length c0_1] 87 (0, 0)) bk hb)
           have n4_ := Aside0.mk (blk_below (g := gb868) (o := .cells #[.string t863, .slice Ao27 t864.length co27] 91 (0, 0)) bk hb)
           have n5_ := Aside0.mk (blk_below (g := gb876) (o := .cells #[.string t871, .slice Ao58 t872.length co58] 91 (0, 0)) bk hb)
           have n6_ := Aside0.mk (blk_below (g := gb883) (o := .cells #[.string t878, .slice Ao66 t879.length co66] 91 (0, 0)) bk hb)
           have n7_ := Aside0.mk (below_step bwS hb)
           clear HO_869001
           clear HO874
           clear HO881
           clear BK855
           clear BK868
           clear BK876
           clear BK883
           clear HB
           have HO_869001 := n0_
           have HO874 := n1_
           have HO881 := n2_
           have BK855 := n3_
           have BK868 := n4_
           have BK876 := n5_
           have BK883 := n6_
           have HB := n7_
           clear n0_ n1_ n2_ n3_ n4_ n5_ n6_ n7_
           (try clear hb)
           (try clear hb2)
           (try clear hk)
           (try clear hi)
           refine hK.out _ _ ⟨(blk_cell BK883.out 0).trans rfl, (blk_cell BK883.out 1).trans rfl, (blk_cell BK876.out 0).trans rfl, (blk_cell BK876.out 1).trans rfl⟩ (fun hHeld => ?_)
           clear hK K
           refine norm_ (a' := ?_) ?_ ?_
           rotate_left
           ·show Act.put _ (some 73) _ = _
            simp only [Act.put, List.setIfInBounds_toArray, List.set_cons_zero, List.set_cons_succ, i64_w, i32_w]
            rfl
           refine one_ (i := 13) (N := some 75) (bitsL 17 16383) rfl rfl (one_of HT_.out (by kernel_rfl)) (by decide) (fun K hK => ?_)
           refine goes_ Tryd.func60 (by kernel_rfl) rfl #[.agg #[.string t871, .slice Ao58 t872.length co58]] (by rfl) rfl rfl am ?_
           with_reducible refine (mime_Type_Text.calls (hG := by first | exact hG | exact Glob.below hG (by first | exact HB.out | (repeat (first | (with_reducible first | exact HB.out | apply below_alloc | apply pw_below_drewN | apply below_drew1 | refine below_set ?_ GE855.out | refine below_set ?_ GE868.out | refine below_set ?_ GE876.out | refine below_set ?_ GE883.out) | exact HB.out))) | exact Glob.drawn hG (by repeat (first | exact Drawn0.refl _ | apply Drawn0.step))) kj17 t871 _ _ t872 t885 _ ?side1 ?side2 A52.out).mono ?_
           (case side1 => repeat (first | exact (Kd.R_reads' HO874.out).2.2 | (with_reducible refine Kd.C_alloc ?_ _) | (with_reducible refine Kd.C_drewN ?_ _) | (with_reducible refine Kd.C_drew ?_)))
           (case side2 => exact (Kd.R_reads' HO874.out).2.1)
           rintro e w70 ⟨rfl, hb⟩
           refine ⟨_, rfl, ?_⟩
           have n0_ := Aside0.mk (Kd.R_below (by (with_reducible repeat (first | apply Kd.R_alloc | apply Kd.R_drewN | apply Kd.R_drew)); exact HO_869001.out) hb)
           have n1_ := Aside0.mk (Kd.R_below (by (with_reducible repeat (first | apply Kd.R_alloc | apply Kd.R_drewN | apply Kd.R_drew)); exact HO874.out) hb)
           have n2_ := Aside0.mk (Kd.R_below (by (with_reducible repeat (first | apply Kd.R_alloc | apply Kd.R_drewN | apply Kd.R_drew)); exact HO881.out) hb)
           have n3_ := Aside0.mk (blk_below (g := gb855) (o := .cells #[.string a0_0, .slice A0_1 l0_1.length c0_1] 87 (0, 0)) bk hb)
           have n4_ := Aside0.mk (blk_below (g := gb868) (o := .cells #[.string t863, .slice Ao27 t864.length co27] 91 (0, 0)) bk hb)
           have n5_ := Aside0.mk (blk_below (g := gb876) (o := .cells #[.string t871, .slice Ao58 t872.length co58] 91 (0, 0)) bk hb)
           have n6_ := Aside0.mk (blk_below (g := gb883) (o := .cells #[.string t878, .slice Ao66 t879.length co66] 91 (0, 0)) bk hb)
           have n7_ := Aside0.mk (below_step bwS hb)
           clear HO_869001
           clear HO874
           clear HO881
           clear BK855
           clear BK868
           clear BK876
           clear BK883
           clear HB
           have HO_869001 := n0_
           have HO874 := n1_
           have HO881 := n2_
           have BK855 := n3_
           have BK868 := n4_
           have BK876 := n5_
           have BK883 := n6_
           have HB := n7_
           clear n0_ n1_ n2_ n3_ n4_ n5_ n6_ n7_
           (try clear hb)
           (try clear hb2)
           (try clear hk)
           (try clear hi)
           refine hK.out _ _ ⟨(blk_cell BK883.out 0).trans rfl, (blk_cell BK883.out 1).trans rfl, (blk_cell BK876.out 0).trans rfl, (blk_cell BK876.out 1).trans rfl⟩ (fun hHeld => ?_)
           clear hK K
           refine norm_ (a' := ?_) ?_ ?_
           rotate_left
           ·show Act.put _ (some 75) _ = _
            simp only [Act.put, List.setIfInBounds_toArray, List.set_cons_zero, List.set_cons_succ, i64_w, i32_w]
            rfl
           refine pure_ (i := 14) (N := some 76) (v := ?_) (a' := ?_) (bitsL 17 32767) rfl rfl (any_of HT_.out (by kernel_rfl)) (fun _ _ _ h => h) (Or.inl ⟨by rfl, ?_⟩) ?_ ?_
           rotate_left
           ·intro w'
            go_simp
            with_reducible rfl
           rotate_left
           ·simp only [Act.put, List.setIfInBounds_toArray, List.set_cons_zero, List.set_cons_succ, i64_w, i32_w]
            rfl
           refine pure_ (i := 15) (N := some 77) (v := ?_) (a' := ?_) (bitsL 17 65535) rfl rfl (any_of HT_.out (by kernel_rfl)) (fun _ _ _ h => h) (Or.inl ⟨by rfl, ?_⟩) ?_ ?_
           rotate_left
           ·intro w'
            go_simp
            with_reducible rfl
           rotate_left
           ·simp only [Act.put, List.setIfInBounds_toArray, List.set_cons_zero, List.set_cons_succ, i64_w, i32_w]
            rfl
           refine pure_ (i := 16) (N := some 4) (v := ?_) (a' := ?_) (bitsL 17 131071) rfl rfl (any_of HT_.out (by kernel_rfl)) (fun _ _ _ h => h) (Or.inl ⟨by rfl, ?_⟩) ?_ ?_
           rotate_left
           ·intro w'
            go_simp
            with_reducible rfl
           rotate_left
           ·simp only [Act.put, List.setIfInBounds_toArray, List.set_cons_zero, List.set_cons_succ, i64_w, i32_w]
            rfl
           refine done_ (done_of HT_.out (by kernel_rfl)) ?_
           try go_wp2
           go_ret
           exact ⟨by first | rfl | (simp [errW_none, errW_some] <;> rfl) | (simp [*, errW_none, errW_some] <;> rfl), bwS⟩
          ·rw [if_neg c50] at H
           have c50b0 : (t878.toList == t871.toList) = false := beq_eq_false_iff_ne.mpr c50
           have c50b1 : (t878.toList != t871.toList) = true := bne_iff_ne.mpr c50
           obtain rfl := Option.some.inj H
           try go_wp2_with (first | ((with_reducible refine gate_callee (f := 54) rfl ?_); refine goesL_ (some 42) rfl rfl Tryd.func54 (by kernel_rfl) rfl #[.string a1] rfl am ?_; (with_reducible refine (mime_ReadType.calls (hG := by first | exact hG | exact Glob.below hG (by first | exact HB.out | (repeat (first | (with_reducible first | exact HB.out | apply below_alloc | apply pw_below_drewN | apply below_drew1 | refine below_set ?_ GE855.out | refine below_set ?_ GE868.out | refine below_set ?_ GE876.out | refine below_set ?_ GE883.out) | exact HB.out))) | exact Glob.drawn hG (by repeat (first | exact Drawn0.refl _ | apply Drawn0.step))) kj17 a1 t871 t872 t875 _ A45.out).mono ?_); rintro e w71 ⟨v873, rfl, ho0, hb⟩; refine ⟨_, rfl, ?_⟩; have n0_ := Aside0.mk (Kd.R_elder' (by (with_reducible repeat (first | apply Kd.R_alloc | apply Kd.R_drewN | apply Kd.R_drew)); exact HO_869001.out) (Kd.R_base ho0) hb); have n1_ := Aside0.mk (Kd.R_lower (Kd.R_new' ho0 (Kd.R_lt (by (with_reducible repeat (first | apply Kd.R_alloc | apply Kd.R_drewN | apply Kd.R_drew)); exact HO_869001.out))) (below_size bwS)); have n2_ := Aside0.mk (blk_below (g := gb855) (o := .cells #[.string a0_0, .slice A0_1 l0_1.length c0_1] 87 (0, 0)) bk hb); have n3_ := Aside0.mk (blk_below (g := gb868) (o := .cells #[.string t863, .slice Ao27 t864.length co27] 91 (0, 0)) bk hb); have n4_ := Aside0.mk (below_step bwS hb); clear HO_869001; clear BK855; clear BK868; clear HB; have HO_869001 := n0_; have HO874 := n1_; have BK855 := n2_; have BK868 := n3_; have HB := n4_; clear n0_ n1_ n2_ n3_ n4_; (try clear hb); (try clear hb2); (try clear hk); (try clear hi); (try clear ho0)) | ((with_reducible refine gate_dst (N := 7) rfl ?_); (try (refine gate_guard (by rfl) ?_; dsimp only)); refine box_event ?hg (N := 7) ?hd (cs := #[.string (⟨#[]⟩ : ByteArray), .slice none 0 0]) (t := 91) ?hr ?_; (case hd => rfl); (case hg => rfl); (case hr => first | (go_simp; done) | (go_simp; rfl)); intro gb876 hg w72 hbox hb; have n0_ := Aside0.mk (Kd.R_below (by (with_reducible repeat (first | apply Kd.R_alloc | apply Kd.R_drewN | apply Kd.R_drew)); exact HO_869001.out) hb); have n1_ := Aside0.mk (Kd.R_below (by (with_reducible repeat (first | apply Kd.R_alloc | apply Kd.R_drewN | apply Kd.R_drew)); exact HO874.out) hb); have n2_ := Aside0.mk (blk_below (g := gb855) (o := .cells #[.string a0_0, .slice A0_1 l0_1.length c0_1] 87 (0, 0)) bk hb); have n3_ := Aside0.mk (blk_below (g := gb868) (o := .cells #[.string t863, .slice Ao27 t864.length co27] 91 (0, 0)) bk hb); have n4_ := Aside0.mk (below_step bwS hb); have n5_ := Aside0.mk (hbox); have n6_ := Aside0.mk ((by rw [hg]; exact (below_size bwS) : w.heap.size ≤ gb876)); have n7_ := Aside0.mk ((by rw [hg]; exact (below_size bwS) : w.heap.size ≤ gb876)); have n8_ := Aside0.mk ((by rw [hg]; exact Nat.ne_of_lt (blk_lt (g := gb855) (o := .cells #[.string a0_0, .slice A0_1 l0_1.length c0_1] 87 (0, 0)) bk) : gb855 ≠ gb876)); have n9_ := Aside0.mk ((by rw [hg]; exact Nat.ne_of_gt (blk_lt (g := gb855) (o := .cells #[.string a0_0, .slice A0_1 l0_1.length c0_1] 87 (0, 0)) bk) : gb876 ≠ gb855)); have n10_ := Aside0.mk ((by rw [hg]; exact Nat.ne_of_lt (blk_lt (g := gb868) (o := .cells #[.string t863, .slice Ao27 t864.length co27] 91 (0, 0)) bk) : gb868 ≠ gb876)); have n11_ := Aside0.mk ((by rw [hg]; exact Nat.ne_of_gt (blk_lt (g := gb868) (o := .cells #[.string t863, .slice Ao27 t864.length co27] 91 (0, 0)) bk) : gb876 ≠ gb868)); clear HO_869001; clear HO874; clear BK855; clear BK868; clear HB; have HO_869001 := n0_; have HO874 := n1_; have BK855 := n2_; have BK868 := n3_; have HB := n4_; have BK876 := n5_; have GW876 := n6_; have GE876 := n7_; have NB855_876 := n8_; have NB876_855 := n9_; have NB868_876 := n10_; have NB876_868 := n11_; clear n0_ n1_ n2_ n3_ n4_ n5_ n6_ n7_ n8_ n9_ n10_ n11_; clear hb hbox hg; have hnb73 := NB876_855.out; have hnc73 := NB855_876.out; have hnb74 := NB876_868.out; have hnc74 := NB868_876.out; have hcz75_0 : w72.cell? ⟨gb876, 0, none⟩ = some (.string (⟨#[]⟩ : ByteArray)) := (blk_cell BK876.out 0).trans rfl; have hcz75_1 : w72.cell? ⟨gb876, 1, none⟩ = some (.slice none 0 0) := (blk_cell BK876.out 1).trans rfl; have hfz75_0 := blk_frozen BK876.out 0; have hfz75_1 := blk_frozen BK876.out 1; obtain ⟨Ao76, co76, eo76⟩ := Kd.R_slice HO874.out; subst eo76) | ((with_reducible refine gate_callee (f := 60) rfl ?_); refine goesL_ (some 58) rfl rfl Tryd.func60 (by kernel_rfl) rfl #[.agg #[.string t871, .slice Ao76 t872.length co76]] rfl am ?_; (with_reducible refine (mime_Type_Text.calls (hG := by first | exact hG | exact Glob.below hG (by first | exact HB.out | (repeat (first | (with_reducible first | exact HB.out | apply below_alloc | apply pw_below_drewN | apply below_drew1 | refine below_set ?_ GE855.out | refine below_set ?_ GE868.out | refine below_set ?_ GE876.out | refine below_set ?_ GE883.out) | exact HB.out))) | exact Glob.drawn hG (by repeat (first | exact Drawn0.refl _ | apply Drawn0.step))) kj17 t871 _ _ t872 t877 _ ?side1 ?side2 A47.out).mono ?_); (case side1 => refine (Kd.R_reads' (e := 158) (base := w.heap.size) (ok := fun k_ => (True ∧ some k_ ≠ (.slice Ao27 t864.length co27 : Value).ownBlock)) (n := t872.length) (c := co76) ?_).2.2; exact (by (with_reducible repeat (first | apply Kd.R_alloc | apply Kd.R_drewN | apply Kd.R_drew)); exact (Kd.R_mono (Kd.R_far (p := ⟨gb876, 1, none⟩) (Kd.R_far (p := ⟨gb876, 0, none⟩) (Kd.R_types HO874.out BK876.out (by decide)) (fun _ hk => hk.2) (.string t871)) (fun _ hk => hk.2) (.slice Ao76 t872.length co76)) (fun _ h_ => h_.1)))); (case side2 => exact (Kd.R_reads' HO874.out).2.1); rintro e w77 ⟨rfl, hb⟩; refine ⟨_, rfl, ?_⟩; have n0_ := Aside0.mk (Kd.R_below (by (with_reducible repeat (first | apply Kd.R_alloc | apply Kd.R_drewN | apply Kd.R_drew)); exact (Kd.R_mono (Kd.R_far (p := ⟨gb876, 1, none⟩) (Kd.R_far (p := ⟨gb876, 0, none⟩) (Kd.R_types HO_869001.out BK876.out (by decide)) (fun _ hk => hk.2) (.string t871)) (fun _ hk => hk.2) (.slice Ao76 t872.length co76)) (fun _ h_ => h_.1))) hb); have n1_ := Aside0.mk (Kd.R_below (by (with_reducible repeat (first | apply Kd.R_alloc | apply Kd.R_drewN | apply Kd.R_drew)); exact (Kd.R_mono (Kd.R_far (p := ⟨gb876, 1, none⟩) (Kd.R_far (p := ⟨gb876, 0, none⟩) (Kd.R_types HO874.out BK876.out (by decide)) (fun _ hk => hk.2) (.string t871)) (fun _ hk => hk.2) (.slice Ao76 t872.length co76)) (fun _ h_ => h_.1))) hb); have n2_ := Aside0.mk (blk_below (g := gb855) (o := .cells #[.string a0_0, .slice A0_1 l0_1.length c0_1] 87 (0, 0)) (by (with_reducible repeat (first | refine blk_drewN ?_ _ | refine blk_drew ?_ | refine blk_alloc ?_ _)); refine blk_far ?_ NB855_876.out _; (with_reducible repeat (first | refine blk_drewN ?_ _ | refine blk_drew ?_ | refine blk_alloc ?_ _)); refine blk_far ?_ NB855_876.out _; (with_reducible repeat (first | refine blk_drewN ?_ _ | refine blk_drew ?_ | refine blk_alloc ?_ _)); exact BK855.out) hb); have n3_ := Aside0.mk (blk_below (g := gb868) (o := .cells #[.string t863, .slice Ao27 t864.length co27] 91 (0, 0)) (by (with_reducible repeat (first | refine blk_drewN ?_ _ | refine blk_drew ?_ | refine blk_alloc ?_ _)); refine blk_far ?_ NB868_876.out _; (with_reducible repeat (first | refine blk_drewN ?_ _ | refine blk_drew ?_ | refine blk_alloc ?_ _)); refine blk_far ?_ NB868_876.out _; (with_reducible repeat (first | refine blk_drewN ?_ _ | refine blk_drew ?_ | refine blk_alloc ?_ _)); exact BK868.out) hb); have n4_ := Aside0.mk (blk_below (g := gb876) (o := .cells #[.string t871, .slice Ao76 t872.length co76] 91 (0, 0)) (by (with_reducible repeat (first | refine blk_drewN ?_ _ | refine blk_drew ?_ | refine blk_alloc ?_ _)); refine blk_put (cs := #[.string t871, .slice none 0 0]) ?_ 1 _ rfl; (with_reducible repeat (first | refine blk_drewN ?_ _ | refine blk_drew ?_ | refine blk_alloc ?_ _)); refine blk_put (cs := #[.string (⟨#[]⟩ : ByteArray), .slice none 0 0]) ?_ 0 _ rfl; (with_reducible repeat (first | refine blk_drewN ?_ _ | refine blk_drew ?_ | refine blk_alloc ?_ _)); exact BK876.out) hb); have n5_ := Aside0.mk (below_step bwS hb); clear HO_869001; clear HO874; clear BK855; clear BK868; clear BK876; clear HB; have HO_869001 := n0_; have HO874 := n1_; have BK855 := n2_; have BK868 := n3_; have BK876 := n4_; have HB := n5_; clear n0_ n1_ n2_ n3_ n4_ n5_; (try clear hb); (try clear hb2); (try clear hk); (try clear hi)) | ((with_reducible refine gate_callee (f := 54) rfl ?_); refine goesL_ (some 59) rfl rfl Tryd.func54 (by kernel_rfl) rfl #[.string t877] rfl am ?_; (with_reducible refine (mime_ReadType.calls (hG := by first | exact hG | exact Glob.below hG (by first | exact HB.out | (repeat (first | (with_reducible first | exact HB.out | apply below_alloc | apply pw_below_drewN | apply below_drew1 | refine below_set ?_ GE855.out | refine below_set ?_ GE868.out | refine below_set ?_ GE876.out | refine below_set ?_ GE883.out) | exact HB.out))) | exact Glob.drawn hG (by repeat (first | exact Drawn0.refl _ | apply Drawn0.step))) kj17 t877 t878 t879 t882 _ A48.out).mono ?_); rintro e w78 ⟨v880, rfl, ho0, hb⟩; refine ⟨_, rfl, ?_⟩; have n0_ := Aside0.mk (Kd.R_elder' (by (with_reducible repeat (first | apply Kd.R_alloc | apply Kd.R_drewN | apply Kd.R_drew)); exact HO_869001.out) (Kd.R_base ho0) hb); have n1_ := Aside0.mk (Kd.R_elder' (by (with_reducible repeat (first | apply Kd.R_alloc | apply Kd.R_drewN | apply Kd.R_drew)); exact HO874.out) (Kd.R_base ho0) hb); have n2_ := Aside0.mk (Kd.R_lower (Kd.R_new' (Kd.R_new' ho0 (Kd.R_lt (by (with_reducible repeat (first | apply Kd.R_alloc | apply Kd.R_drewN | apply Kd.R_drew)); exact HO_869001.out))) (Kd.R_lt (by (with_reducible repeat (first | apply Kd.R_alloc | apply Kd.R_drewN | apply Kd.R_drew)); exact HO874.out))) (below_size bwS)); have n3_ := Aside0.mk (blk_below (g := gb855) (o := .cells #[.string a0_0, .slice A0_1 l0_1.length c0_1] 87 (0, 0)) bk hb); have n4_ := Aside0.mk (blk_below (g := gb868) (o := .cells #[.string t863, .slice Ao27 t864.length co27] 91 (0, 0)) bk hb); have n5_ := Aside0.mk (blk_below (g := gb876) (o := .cells #[.string t871, .slice Ao76 t872.length co76] 91 (0, 0)) bk hb); have n6_ := Aside0.mk (below_step bwS hb); clear HO_869001; clear HO874; clear BK855; clear BK868; clear BK876; clear HB; have HO_869001 := n0_; have HO874 := n1_; have HO881 := n2_; have BK855 := n3_; have BK868 := n4_; have BK876 := n5_; have HB := n6_; clear n0_ n1_ n2_ n3_ n4_ n5_ n6_; (try clear hb); (try clear hb2); (try clear hk); (try clear hi); (try clear ho0)) | ((with_reducible refine gate_dst (N := 9) rfl ?_); (try (refine gate_guard (by rfl) ?_; dsimp only)); refine box_event ?hg (N := 9) ?hd (cs := #[.string (⟨#[]⟩ : ByteArray), .slice none 0 0]) (t := 91) ?hr ?_; (case hd => rfl); (case hg => rfl); (case hr => first | (go_simp; done) | (go_simp; rfl)); intro gb883 hg w79 hbox hb; have n0_ := Aside0.mk (Kd.R_below (by (with_reducible repeat (first | apply Kd.R_alloc | apply Kd.R_drewN | apply Kd.R_drew)); exact HO_869001.out) hb); have n1_ := Aside0.mk (Kd.R_below (by (with_reducible repeat (first | apply Kd.R_alloc | apply Kd.R_drewN | apply Kd.R_drew)); exact HO874.out) hb); have n2_ := Aside0.mk (Kd.R_below (by (with_reducible repeat (first | apply Kd.R_alloc | apply Kd.R_drewN | apply Kd.R_drew)); exact HO881.out) hb); have n3_ := Aside0.mk (blk_below (g := gb855) (o := .cells #[.string a0_0, .slice A0_1 l0_1.length c0_1] 87 (0, 0)) bk hb); have n4_ := Aside0.mk (blk_below (g := gb868) (o := .cells #[.string t863, .slice Ao27 t864.length co27] 91 (0, 0)) bk hb); have n5_ := Aside0.mk (blk_below (g := gb876) (o := .cells #[.string t871, .slice Ao76 t872.length co76] 91 (0, 0)) bk hb); have n6_ := Aside0.mk (below_step bwS hb); have n7_ := Aside0.mk (hbox); have n8_ := Aside0.mk ((by rw [hg]; exact (below_size bwS) : w.heap.size ≤ gb883)); have n9_ := Aside0.mk ((by rw [hg]; exact (below_size bwS) : w.heap.size ≤ gb883)); have n10_ := Aside0.mk ((by rw [hg]; exact Nat.ne_of_lt (blk_lt (g := gb855) (o := .cells #[.string a0_0, .slice A0_1 l0_1.length c0_1] 87 (0, 0)) bk) : gb855 ≠ gb883)); have n11_ := Aside0.mk ((by rw [hg]; exact Nat.ne_of_gt (blk_lt (g := gb855) (o := .cells #[.string a0_0, .slice A0_1 l0_1.length c0_1] 87 (0, 0)) bk) : gb883 ≠ gb855)); have n12_ := Aside0.mk ((by rw [hg]; exact Nat.ne_of_lt (blk_lt (g := gb868) (o := .cells #[.string t863, .slice Ao27 t864.length co27] 91 (0, 0)) bk) : gb868 ≠ gb883)); have n13_ := Aside0.mk ((by rw [hg]; exact Nat.ne_of_gt (blk_lt (g := gb868) (o := .cells #[.string t863, .slice Ao27 t864.length co27] 91 (0, 0)) bk) : gb883 ≠ gb868)); have n14_ := Aside0.mk ((by rw [hg]; exact Nat.ne_of_lt (blk_lt (g := gb876) (o := .cells #[.string t871, .slice Ao76 t872.length co76] 91 (0, 0)) bk) : gb876 ≠ gb883)); have n15_ := Aside0.mk ((by rw [hg]; exact Nat.ne_of_gt (blk_lt (g := gb876) (o := .cells #[.string t871, .slice Ao76 t872.length co76] 91 (0, 0)) bk) : gb883 ≠ gb876)); clear HO_869001; clear HO874; clear HO881; clear BK855; clear BK868; clear BK876; clear HB; have HO_869001 := n0_; have HO874 := n1_; have HO881 := n2_; have BK855 := n3_; have BK868 := n4_; have BK876 := n5_; have HB := n6_; have BK883 := n7_; have GW883 := n8_; have GE883 := n9_; have NB855_883 := n10_; have NB883_855 := n11_; have NB868_883 := n12_; have NB883_868 := n13_; have NB876_883 := n14_; have NB883_876 := n15_; clear n0_ n1_ n2_ n3_ n4_ n5_ n6_ n7_ n8_ n9_ n10_ n11_ n12_ n13_ n14_ n15_; clear hb hbox hg; have hnb80 := NB883_855.out; have hnc80 := NB855_883.out; have hnb81 := NB883_868.out; have hnc81 := NB868_883.out; have hnb82 := NB883_876.out; have hnc82 := NB876_883.out; have hcz83_0 : w79.cell? ⟨gb883, 0, none⟩ = some (.string (⟨#[]⟩ : ByteArray)) := (blk_cell BK883.out 0).trans rfl; have hcz83_1 : w79.cell? ⟨gb883, 1, none⟩ = some (.slice none 0 0) := (blk_cell BK883.out 1).trans rfl; have hfz83_0 := blk_frozen BK883.out 0; have hfz83_1 := blk_frozen BK883.out 1; obtain ⟨Ao84, co84, eo84⟩ := Kd.R_slice HO881.out; subst eo84))
           have n0_ : Aside0 (Kd.R k158 158 ((w79.setCell ⟨gb883, 0, none⟩ (.string t878)).setCell ⟨gb883, 1, none⟩ (.slice Ao84 t879.length co84)) w.heap.size (fun k_ => some k_ ≠ (.slice Ao76 t872.length co76 : Value).ownBlock ∧ some k_ ≠ (.slice Ao84 t879.length co84 : Value).ownBlock) (.slice Ao27 t864.length co27) t864) := ⟨by (with_reducible repeat (first | apply Kd.R_alloc | apply Kd.R_drewN | apply Kd.R_drew)); exact Kd.R_mono (Kd.R_far (p := ⟨gb883, 1, none⟩) (Kd.R_far (p := ⟨gb883, 0, none⟩) (Kd.R_types HO_869001.out BK883.out (by decide)) (fun _ hk => hk.2) (.string t878)) (fun _ hk => hk.2) (.slice Ao84 t879.length co84)) (fun _ hk => ⟨hk.1.1.2, hk.1.2⟩)⟩
           have n1_ : Aside0 (Kd.R k158 158 ((w79.setCell ⟨gb883, 0, none⟩ (.string t878)).setCell ⟨gb883, 1, none⟩ (.slice Ao84 t879.length co84)) w.heap.size (fun k_ => some k_ ≠ (.slice Ao27 t864.length co27 : Value).ownBlock ∧ some k_ ≠ (.slice Ao84 t879.length co84 : Value).ownBlock) (.slice Ao76 t872.length co76) t872) := ⟨by (with_reducible repeat (first | apply Kd.R_alloc | apply Kd.R_drewN | apply Kd.R_drew)); exact Kd.R_mono (Kd.R_far (p := ⟨gb883, 1, none⟩) (Kd.R_far (p := ⟨gb883, 0, none⟩) (Kd.R_types HO874.out BK883.out (by decide)) (fun _ hk => hk.2) (.string t878)) (fun _ hk => hk.2) (.slice Ao84 t879.length co84)) (fun _ hk => ⟨hk.1.1.2, hk.1.2⟩)⟩
           have n2_ : Aside0 (Kd.R k158 158 ((w79.setCell ⟨gb883, 0, none⟩ (.string t878)).setCell ⟨gb883, 1, none⟩ (.slice Ao84 t879.length co84)) w.heap.size (fun k_ => some k_ ≠ (.slice Ao27 t864.length co27 : Value).ownBlock ∧ some k_ ≠ (.slice Ao76 t872.length co76 : Value).ownBlock) (.slice Ao84 t879.length co84) t879) := ⟨by (with_reducible repeat (first | apply Kd.R_alloc | apply Kd.R_drewN | apply Kd.R_drew)); exact Kd.R_mono (Kd.R_far (p := ⟨gb883, 1, none⟩) (Kd.R_far (p := ⟨gb883, 0, none⟩) (Kd.R_types HO881.out BK883.out (by decide)) (fun _ hk => hk.2) (.string t878)) (fun _ hk => hk.2) (.slice Ao84 t879.length co84)) (fun _ hk => ⟨hk.1.1.2, hk.1.2⟩)⟩
           have n3_ : Aside0 (((w79.setCell ⟨gb883, 0, none⟩ (.string t878)).setCell ⟨gb883, 1, none⟩ (.slice Ao84 t879.length co84)).heap[gb855]? = some (.cells #[.string a0_0, .slice A0_1 l0_1.length c0_1] 87 (0, 0))) := ⟨by (with_reducible repeat (first | refine blk_drewN ?_ _ | refine blk_drew ?_ | refine blk_alloc ?_ _)); refine blk_far ?_ NB855_883.out _; (with_reducible repeat (first | refine blk_drewN ?_ _ | refine blk_drew ?_ | refine blk_alloc ?_ _)); refine blk_far ?_ NB855_883.out _; (with_reducible repeat (first | refine blk_drewN ?_ _ | refine blk_drew ?_ | refine blk_alloc ?_ _)); exact BK855.out⟩
           have n4_ : Aside0 (((w79.setCell ⟨gb883, 0, none⟩ (.string t878)).setCell ⟨gb883, 1, none⟩ (.slice Ao84 t879.length co84)).heap[gb868]? = some (.cells #[.string t863, .slice Ao27 t864.length co27] 91 (0, 0))) := ⟨by (with_reducible repeat (first | refine blk_drewN ?_ _ | refine blk_drew ?_ | refine blk_alloc ?_ _)); refine blk_far ?_ NB868_883.out _; (with_reducible repeat (first | refine blk_drewN ?_ _ | refine blk_drew ?_ | refine blk_alloc ?_ _)); refine blk_far ?_ NB868_883.out _; (with_reducible repeat (first | refine blk_drewN ?_ _ | refine blk_drew ?_ | refine blk_alloc ?_ _)); exact BK868.out⟩
           have n5_ : Aside0 (((w79.setCell ⟨gb883, 0, none⟩ (.string t878)).setCell ⟨gb883, 1, none⟩ (.slice Ao84 t879.length co84)).heap[gb876]? = some (.cells #[.string t871, .slice Ao76 t872.length co76] 91 (0, 0))) := ⟨by (with_reducible repeat (first | refine blk_drewN ?_ _ | refine blk_drew ?_ | refine blk_alloc ?_ _)); refine blk_far ?_ NB876_883.out _; (with_reducible repeat (first | refine blk_drewN ?_ _ | refine blk_drew ?_ | refine blk_alloc ?_ _)); refine blk_far ?_ NB876_883.out _; (with_reducible repeat (first | refine blk_drewN ?_ _ | refine blk_drew ?_ | refine blk_alloc ?_ _)); exact BK876.out⟩
           have n6_ : Aside0 (((w79.setCell ⟨gb883, 0, none⟩ (.string t878)).setCell ⟨gb883, 1, none⟩ (.slice Ao84 t879.length co84)).heap[gb883]? = some (.cells #[.string t878, .slice Ao84 t879.length co84] 91 (0, 0))) := ⟨by (with_reducible repeat (first | refine blk_drewN ?_ _ | refine blk_drew ?_ | refine blk_alloc ?_ _)); refine blk_put (cs := #[.string t878, .slice none 0 0]) ?_ 1 _ rfl; (with_reducible repeat (first | refine blk_drewN ?_ _ | refine blk_drew ?_ | refine blk_alloc ?_ _)); refine blk_put (cs := #[.string (⟨#[]⟩ : ByteArray), .slice none 0 0]) ?_ 0 _ rfl; (with_reducible repeat (first | refine blk_drewN ?_ _ | refine blk_drew ?_ | refine blk_alloc ?_ _)); exact BK883.out⟩
           have n7_ : Aside0 (Below w.heap.size w ((w79.setCell ⟨gb883, 0, none⟩ (.string t878)).setCell ⟨gb883, 1, none⟩ (.slice Ao84 t879.length co84))) := ⟨bwS⟩
           (try clear HO_869001)
           (try clear HO874)
           (try clear HO881)
           (try clear BK855)
           (try clear BK868)
           (try clear BK876)
           (try clear BK883)
           (try clear HB)
           generalize ((w79.setCell ⟨gb883, 0, none⟩ (.string t878)).setCell ⟨gb883, 1, none⟩ (.slice Ao84 t879.length co84)) = w85 at n0_ n1_ n2_ n3_ n4_ n5_ n6_ n7_ ⊢
           have HO_869001 := n0_
           have HO874 := n1_
           have HO881 := n2_
           have BK855 := n3_
           have BK868 := n4_
           have BK876 := n5_
           have BK883 := n6_
           have HB := n7_
           clear n0_ n1_ n2_ n3_ n4_ n5_ n6_ n7_
           have n0_ := Aside0.mk (Kd.R_drew HO_869001.out)
           have n1_ := Aside0.mk (Kd.R_drew HO874.out)
           have n2_ := Aside0.mk (Kd.R_drew HO881.out)
           have n3_ := Aside0.mk (blk_drew BK855.out)
           have n4_ := Aside0.mk (blk_drew BK868.out)
           have n5_ := Aside0.mk (blk_drew BK876.out)
           have n6_ := Aside0.mk (blk_drew BK883.out)
           have n7_ := Aside0.mk (below_drew1 HB.out)
           clear HO_869001
           clear HO874
           clear HO881
           clear BK855
           clear BK868
           clear BK876
           clear BK883
           clear HB
           have HO_869001 := n0_
           have HO874 := n1_
           have HO881 := n2_
           have BK855 := n3_
           have BK868 := n4_
           have BK876 := n5_
           have BK883 := n6_
           have HB := n7_
           clear n0_ n1_ n2_ n3_ n4_ n5_ n6_ n7_
           refine start_ (n := 17) (S := fun w' => w'.cell? ⟨gb883, 0, none⟩ = some (.string t878) ∧ w'.cell? ⟨gb883, 1, none⟩ = some (.slice Ao84 t879.length co84) ∧ w'.cell? ⟨gb876, 0, none⟩ = some (.string t871) ∧ w'.cell? ⟨gb876, 1, none⟩ = some (.slice Ao76 t872.length co76)) (ds := []) #[false, false, false, false, false, false, false, false, false, false, false, false, false, false, false, false, false] (by kernel_rfl) rfl rfl ⟨(blk_cell BK883.out 0).trans rfl, (blk_cell BK883.out 1).trans rfl, (blk_cell BK876.out 0).trans rfl, (blk_cell BK876.out 1).trans rfl⟩ (fun hHeld => ?_); refine with_tabW bulletinlaw20_MimeTypeBack.tab12 bulletinlaw20_MimeTypeBack.bits12 (fun HT_ HW_ => ?_)
           generalize w85.drew = w86 at HO_869001 HO874 HO881 BK855 BK868 BK876 BK883 HB hHeld ⊢
           refine pure_ (i := 0) (N := some 62) (v := ?_) (a' := ?_) (bitsL 17 1) rfl rfl (any_of HT_.out (by kernel_rfl)) (fun _ _ _ h => h) (Or.inl ⟨by rfl, ?_⟩) ?_ ?_
           rotate_left
           ·intro w'
            go_simp
            with_reducible rfl
           rotate_left
           ·simp only [Act.put, List.setIfInBounds_toArray, List.set_cons_zero, List.set_cons_succ, i64_w, i32_w]
            rfl
           refine pure_ (i := 1) (N := some 63) (v := ?_) (a' := ?_) (bitsL 17 3) rfl rfl (any_of HT_.out (by kernel_rfl)) (fun _ _ _ h => h) (Or.inl ⟨by rfl, ?_⟩) ?_ ?_
           rotate_left
           ·intro w'
            go_simp
            with_reducible rfl
           rotate_left
           ·simp only [Act.put, List.setIfInBounds_toArray, List.set_cons_zero, List.set_cons_succ, i64_w, i32_w]
            rfl
           refine pure_ (i := 2) (N := some 64) (v := ?_) (a' := ?_) (bitsL 17 7) rfl rfl (any_of HT_.out (by kernel_rfl)) (fun _ _ _ h => h) (Or.inl ⟨by rfl, ?_⟩) ?_ ?_
           rotate_left
           ·intro w'
            go_simp
            with_reducible rfl
           rotate_left
           ·simp only [Act.put, List.setIfInBounds_toArray, List.set_cons_zero, List.set_cons_succ, i64_w, i32_w]
            rfl
           refine pure_ (i := 3) (N := some 65) (v := ?_) (a' := ?_) (bitsL 17 15) rfl rfl (any_of HT_.out (by kernel_rfl)) (fun _ _ _ h => h) (Or.inl ⟨by rfl, ?_⟩) ?_ ?_
           rotate_left
           ·intro w'
            go_simp
            with_reducible rfl
           rotate_left
           ·simp only [Act.put, List.setIfInBounds_toArray, List.set_cons_zero, List.set_cons_succ, i64_w, i32_w]
            rfl
           refine pure_ (i := 5) (N := some 67) (v := ?_) (a' := ?_) (bitsL 17 47) rfl rfl (any_of HT_.out (by kernel_rfl)) (fun _ _ _ h => h) (Or.inl ⟨by rfl, ?_⟩) ?_ ?_
           rotate_left
           ·intro w'
            go_simp
            with_reducible rfl
           rotate_left
           ·simp only [Act.put, List.setIfInBounds_toArray, List.set_cons_zero, List.set_cons_succ, i64_w, i32_w]
            rfl
           refine take_ (i := 4) (N := some 66) (v := ?_) (a' := ?_) (bitsL 17 63) rfl rfl (take_ofW HT_.out HW_.out (by kernel_rfl)) (fun _ _ _ h => h) (Or.inl ⟨by rfl, ?_⟩) hHeld ?_ ?_
           rotate_left
           ·rintro w' ⟨s0, s1, s2, s3⟩
            go_simp
            with_reducible rfl
           rotate_left
           ·simp only [Act.put, List.setIfInBounds_toArray, List.set_cons_zero, List.set_cons_succ, i64_w, i32_w]
            rfl
           refine take_ (i := 6) (N := some 68) (v := ?_) (a' := ?_) (bitsL 17 127) rfl rfl (take_ofW HT_.out HW_.out (by kernel_rfl)) (fun _ _ _ h => h) (Or.inl ⟨by rfl, ?_⟩) hHeld ?_ ?_
           rotate_left
           ·rintro w' ⟨s0, s1, s2, s3⟩
            go_simp
            with_reducible rfl
           rotate_left
           ·simp only [Act.put, List.setIfInBounds_toArray, List.set_cons_zero, List.set_cons_succ, i64_w, i32_w]
            rfl
           refine pure_ (i := 7) (N := some 69) (v := ?_) (a' := ?_) (bitsL 17 255) rfl rfl (any_of HT_.out (by kernel_rfl)) (fun _ _ _ h => h) (Or.inl ⟨by rfl, ?_⟩) ?_ ?_
           rotate_left
           ·intro w'
            go_simp
            with_reducible rfl
           rotate_left
           ·simp only [Act.put, List.setIfInBounds_toArray, List.set_cons_zero, List.set_cons_succ, i64_w, i32_w]
            rfl
           refine pure_ (i := 8) (N := some 70) (v := ?_) (a' := ?_) (bitsL 17 511) rfl rfl (any_of HT_.out (by kernel_rfl)) (fun _ _ _ h => h) (Or.inl ⟨by rfl, ?_⟩) ?_ ?_
           rotate_left
           ·intro w'
            go_simp
            with_reducible rfl
           rotate_left
           ·simp only [Act.put, List.setIfInBounds_toArray, List.set_cons_zero, List.set_cons_succ, i64_w, i32_w]
            rfl
           refine pure_ (i := 9) (N := some 71) (v := ?_) (a' := ?_) (bitsL 17 1023) rfl rfl (any_of HT_.out (by kernel_rfl)) (fun _ _ _ h => h) (Or.inl ⟨by rfl, ?_⟩) ?_ ?_
           rotate_left
           ·intro w'
            go_simp
            with_reducible rfl
           rotate_left
           ·simp only [Act.put, List.setIfInBounds_toArray, List.set_cons_zero, List.set_cons_succ, i64_w, i32_w]
            rfl
           refine pure_ (i := 10) (N := some 72) (v := undef) (a' := ?_) (bitsL 17 2047) rfl rfl (any_of HT_.out (by kernel_rfl)) (fun _ _ _ h => h) (Or.inr ⟨by rfl, rfl⟩) ?_ ?_
           rotate_left
           ·simp only [Act.put, List.setIfInBounds_toArray, List.set_cons_zero, List.set_cons_succ, i64_w, i32_w]
            rfl
           refine pure_ (i := 11) (N := some 73) (v := undef) (a' := ?_) (bitsL 17 4095) rfl rfl (any_of HT_.out (by kernel_rfl)) (fun _ _ _ h => h) (Or.inr ⟨by rfl, rfl⟩) ?_ ?_
           rotate_left
           ·simp only [Act.put, List.setIfInBounds_toArray, List.set_cons_zero, List.set_cons_succ, i64_w, i32_w]
            rfl
           refine pure_ (i := 12) (N := some 74) (v := undef) (a' := ?_) (bitsL 17 8191) rfl rfl (any_of HT_.out (by kernel_rfl)) (fun _ _ _ h => h) (Or.inr ⟨by rfl, rfl⟩) ?_ ?_
           rotate_left
           ·simp only [Act.put, List.setIfInBounds_toArray, List.set_cons_zero, List.set_cons_succ, i64_w, i32_w]
            rfl
           refine pure_ (i := 13) (N := some 75) (v := undef) (a' := ?_) (bitsL 17 16383) rfl rfl (any_of HT_.out (by kernel_rfl)) (fun _ _ _ h => h) (Or.inr ⟨by rfl, rfl⟩) ?_ ?_
           rotate_left
           ·simp only [Act.put, List.setIfInBounds_toArray, List.set_cons_zero, List.set_cons_succ, i64_w, i32_w]
            rfl
           refine pure_ (i := 14) (N := some 76) (v := undef) (a' := ?_) (bitsL 17 32767) rfl rfl (any_of HT_.out (by kernel_rfl)) (fun _ _ _ h => h) (Or.inr ⟨by rfl, rfl⟩) ?_ ?_
           rotate_left
           ·simp only [Act.put, List.setIfInBounds_toArray, List.set_cons_zero, List.set_cons_succ, i64_w, i32_w]
            rfl
           refine pure_ (i := 15) (N := some 77) (v := ?_) (a' := ?_) (bitsL 17 65535) rfl rfl (any_of HT_.out (by kernel_rfl)) (fun _ _ _ h => h) (Or.inl ⟨by rfl, ?_⟩) ?_ ?_
           rotate_left
           ·intro w'
            go_simp
            with_reducible rfl
           rotate_left
           ·simp only [Act.put, List.setIfInBounds_toArray, List.set_cons_zero, List.set_cons_succ, i64_w, i32_w]
            rfl
           refine pure_ (i := 16) (N := some 4) (v := ?_) (a' := ?_) (bitsL 17 131071) rfl rfl (any_of HT_.out (by kernel_rfl)) (fun _ _ _ h => h) (Or.inl ⟨by rfl, ?_⟩) ?_ ?_
           rotate_left
           ·intro w'
            go_simp
            with_reducible rfl
           rotate_left
           ·simp only [Act.put, List.setIfInBounds_toArray, List.set_cons_zero, List.set_cons_succ, i64_w, i32_w]
            rfl
           refine done_ (done_of HT_.out (by kernel_rfl)) ?_
           try go_wp2
           go_ret
           exact ⟨by first | rfl | (simp [errW_none, errW_some] <;> rfl) | (simp [*, errW_none, errW_some] <;> rfl), bwS⟩
         ·rw [if_neg c49] at H
          have c49b0 : (t882 == 0) = false := beq_eq_false_iff_ne.mpr c49
          have c49b1 : (t882 != 0) = true := bne_iff_ne.mpr c49
          obtain rfl := Option.some.inj H
          try go_wp2_with (first | ((with_reducible refine gate_callee (f := 54) rfl ?_); refine goesL_ (some 42) rfl rfl Tryd.func54 (by kernel_rfl) rfl #[.string a1] rfl am ?_; (with_reducible refine (mime_ReadType.calls (hG := by first | exact hG | exact Glob.below hG (by first | exact HB.out | (repeat (first | (with_reducible first | exact HB.out | apply below_alloc | apply pw_below_drewN | apply below_drew1 | refine below_set ?_ GE855.out | refine below_set ?_ GE868.out | refine below_set ?_ GE876.out | refine below_set ?_ GE883.out) | exact HB.out))) | exact Glob.drawn hG (by repeat (first | exact Drawn0.refl _ | apply Drawn0.step))) kj17 a1 t871 t872 t875 _ A45.out).mono ?_); rintro e w87 ⟨v873, rfl, ho0, hb⟩; refine ⟨_, rfl, ?_⟩; have n0_ := Aside0.mk (Kd.R_elder' (by (with_reducible repeat (first | apply Kd.R_alloc | apply Kd.R_drewN | apply Kd.R_drew)); exact HO_869001.out) (Kd.R_base ho0) hb); have n1_ := Aside0.mk (Kd.R_lower (Kd.R_new' ho0 (Kd.R_lt (by (with_reducible repeat (first | apply Kd.R_alloc | apply Kd.R_drewN | apply Kd.R_drew)); exact HO_869001.out))) (below_size bwS)); have n2_ := Aside0.mk (blk_below (g := gb855) (o := .cells #[.string a0_0, .slice A0_1 l0_1.length c0_1] 87 (0, 0)) bk hb); have n3_ := Aside0.mk (blk_below (g := gb868) (o := .cells #[.string t863, .slice Ao27 t864.length co27] 91 (0, 0)) bk hb); have n4_ := Aside0.mk (below_step bwS hb); clear HO_869001; clear BK855; clear BK868; clear HB; have HO_869001 := n0_; have HO874 := n1_; have BK855 := n2_; have BK868 := n3_; have HB := n4_; clear n0_ n1_ n2_ n3_ n4_; (try clear hb); (try clear hb2); (try clear hk); (try clear hi); (try clear ho0)) | ((with_reducible refine gate_dst (N := 7) rfl ?_); (try (refine gate_guard (by rfl) ?_; dsimp only)); refine box_event ?hg (N := 7) ?hd (cs := #[.string (⟨#[]⟩ : ByteArray), .slice none 0 0]) (t := 91) ?hr ?_; (case hd => rfl); (case hg => rfl); (case hr => first | (go_simp; done) | (go_simp; rfl)); intro gb876 hg w88 hbox hb; have n0_ := Aside0.mk (Kd.R_below (by (with_reducible repeat (first | apply Kd.R_alloc | apply Kd.R_drewN | apply Kd.R_drew)); exact HO_869001.out) hb); have n1_ := Aside0.mk (Kd.R_below (by (with_reducible repeat (first | apply Kd.R_alloc | apply Kd.R_drewN | apply Kd.R_drew)); exact HO874.out) hb); have n2_ := Aside0.mk (blk_below (g := gb855) (o := .cells #[.string a0_0, .slice A0_1 l0_1.length c0_1] 87 (0, 0)) bk hb); have n3_ := Aside0.mk (blk_below (g := gb868) (o := .cells #[.string t863, .slice Ao27 t864.length co27] 91 (0, 0)) bk hb); have n4_ := Aside0.mk (below_step bwS hb); have n5_ := Aside0.mk (hbox); have n6_ := Aside0.mk ((by rw [hg]; exact (below_size bwS) : w.heap.size ≤ gb876)); have n7_ := Aside0.mk ((by rw [hg]; exact (below_size bwS) : w.heap.size ≤ gb876)); have n8_ := Aside0.mk ((by rw [hg]; exact Nat.ne_of_lt (blk_lt (g := gb855) (o := .cells #[.string a0_0, .slice A0_1 l0_1.length c0_1] 87 (0, 0)) bk) : gb855 ≠ gb876)); have n9_ := Aside0.mk ((by rw [hg]; exact Nat.ne_of_gt (blk_lt (g := gb855) (o := .cells #[.string a0_0, .slice A0_1 l0_1.length c0_1] 87 (0, 0)) bk) : gb876 ≠ gb855)); have n10_ := Aside0.mk ((by rw [hg]; exact Nat.ne_of_lt (blk_lt (g := gb868) (o := .cells #[.string t863, .slice Ao27 t864.length co27] 91 (0, 0)) bk) : gb868 ≠ gb876)); have n11_ := Aside0.mk ((by rw [hg]; exact Nat.ne_of_gt (blk_lt (g := gb868) (o := .cells #[.string t863, .slice Ao27 t864.length co27] 91 (0, 0)) bk) : gb876 ≠ gb868)); clear HO_869001; clear HO874; clear BK855; clear BK868; clear HB; have HO_869001 := n0_; have HO874 := n1_; have BK855 := n2_; have BK868 := n3_; have HB := n4_; have BK876 := n5_; have GW876 := n6_; have GE876 := n7_; have NB855_876 := n8_; have NB876_855 := n9_; have NB868_876 := n10_; have NB876_868 := n11_; clear n0_ n1_ n2_ n3_ n4_ n5_ n6_ n7_ n8_ n9_ n10_ n11_; clear hb hbox hg; have hnb89 := NB876_855.out; have hnc89 := NB855_876.out; have hnb90 := NB876_868.out; have hnc90 := NB868_876.out; have hcz91_0 : w88.cell? ⟨gb876, 0, none⟩ = some (.string (⟨#[]⟩ : ByteArray)) := (blk_cell BK876.out 0).trans rfl; have hcz91_1 : w88.cell? ⟨gb876, 1, none⟩ = some (.slice none 0 0) := (blk_cell BK876.out 1).trans rfl; have hfz91_0 := blk_frozen BK876.out 0; have hfz91_1 := blk_frozen BK876.out 1; obtain ⟨Ao92, co92, eo92⟩ := Kd.R_slice HO874.out; subst eo92) | ((with_reducible refine gate_callee (f := 60) rfl ?_); refine goesL_ (some 58) rfl rfl Tryd.func60 (by kernel_rfl) rfl #[.agg #[.string t871, .slice Ao92 t872.length co92]] rfl am ?_; (with_reducible refine (mime_Type_Text.calls (hG := by first | exact hG | exact Glob.below hG (by first | exact HB.out | (repeat (first | (with_reducible first | exact HB.out | apply below_alloc | apply pw_below_drewN | apply below_drew1 | refine below_set ?_ GE855.out | refine below_set ?_ GE868.out | refine below_set ?_ GE876.out | refine below_set ?_ GE883.out) | exact HB.out))) | exact Glob.drawn hG (by repeat (first | exact Drawn0.refl _ | apply Drawn0.step))) kj17 t871 _ _ t872 t877 _ ?side1 ?side2 A47.out).mono ?_); (case side1 => refine (Kd.R_reads' (e := 158) (base := w.heap.size) (ok := fun k_ => (True ∧ some k_ ≠ (.slice Ao27 t864.length co27 : Value).ownBlock)) (n := t872.length) (c := co92) ?_).2.2; exact (by (with_reducible repeat (first | apply Kd.R_alloc | apply Kd.R_drewN | apply Kd.R_drew)); exact (Kd.R_mono (Kd.R_far (p := ⟨gb876, 1, none⟩) (Kd.R_far (p := ⟨gb876, 0, none⟩) (Kd.R_types HO874.out BK876.out (by decide)) (fun _ hk => hk.2) (.string t871)) (fun _ hk => hk.2) (.slice Ao92 t872.length co92)) (fun _ h_ => h_.1)))); (case side2 => exact (Kd.R_reads' HO874.out).2.1); rintro e w93 ⟨rfl, hb⟩; refine ⟨_, rfl, ?_⟩; have n0_ := Aside0.mk (Kd.R_below (by (with_reducible repeat (first | apply Kd.R_alloc | apply Kd.R_drewN | apply Kd.R_drew)); exact (Kd.R_mono (Kd.R_far (p := ⟨gb876, 1, none⟩) (Kd.R_far (p := ⟨gb876, 0, none⟩) (Kd.R_types HO_869001.out BK876.out (by decide)) (fun _ hk => hk.2) (.string t871)) (fun _ hk => hk.2) (.slice Ao92 t872.length co92)) (fun _ h_ => h_.1))) hb); have n1_ := Aside0.mk (Kd.R_below (by (with_reducible repeat (first | apply Kd.R_alloc | apply Kd.R_drewN | apply Kd.R_drew)); exact (Kd.R_mono (Kd.R_far (p := ⟨gb876, 1, none⟩) (Kd.R_far (p := ⟨gb876, 0, none⟩) (Kd.R_types HO874.out BK876.out (by decide)) (fun _ hk => hk.2) (.string t871)) (fun _ hk => hk.2) (.slice Ao92 t872.length co92)) (fun _ h_ => h_.1))) hb); have n2_ := Aside0.mk (blk_below (g := gb855) (o := .cells #[.string a0_0, .slice A0_1 l0_1.length c0_1] 87 (0, 0)) (by (with_reducible repeat (first | refine blk_drewN ?_ _ | refine blk_drew ?_ | refine blk_alloc ?_ _)); refine blk_far ?_ NB855_876.out _; (with_reducible repeat (first | refine blk_drewN ?_ _ | refine blk_drew ?_ | refine blk_alloc ?_ _)); refine blk_far ?_ NB855_876.out _; (with_reducible repeat (first | refine blk_drewN ?_ _ | refine blk_drew ?_ | refine blk_alloc ?_ _)); exact BK855.out) hb); have n3_ := Aside0.mk (blk_below (g := gb868) (o := .cells #[.string t863, .slice Ao27 t864.length co27] 91 (0, 0)) (by (with_reducible repeat (first | refine blk_drewN ?_ _ | refine blk_drew ?_ | refine blk_alloc ?_ _)); refine blk_far ?_ NB868_876.out _; (with_reducible repeat (first | refine blk_drewN ?_ _ | refine blk_drew ?_ | refine blk_alloc ?_ _)); refine blk_far ?_ NB868_876.out _; (with_reducible repeat (first | refine blk_drewN ?_ _ | refine blk_drew ?_ | refine blk_alloc ?_ _)); exact BK868.out) hb); have n4_ := Aside0.mk (blk_below (g := gb876) (o := .cells #[.string t871, .slice Ao92 t872.length co92] 91 (0, 0)) (by (with_reducible repeat (first | refine blk_drewN ?_ _ | refine blk_drew ?_ | refine blk_alloc ?_ _)); refine blk_put (cs := #[.string t871, .slice none 0 0]) ?_ 1 _ rfl; (with_reducible repeat (first | refine blk_drewN ?_ _ | refine blk_drew ?_ | refine blk_alloc ?_ _)); refine blk_put (cs := #[.string (⟨#[]⟩ : ByteArray), .slice none 0 0]) ?_ 0 _ rfl; (with_reducible repeat (first | refine blk_drewN ?_ _ | refine blk_drew ?_ | refine blk_alloc ?_ _)); exact BK876.out) hb); have n5_ := Aside0.mk (below_step bwS hb); clear HO_869001; clear HO874; clear BK855; clear BK868; clear BK876; clear HB; have HO_869001 := n0_; have HO874 := n1_; have BK855 := n2_; have BK868 := n3_; have BK876 := n4_; have HB := n5_; clear n0_ n1_ n2_ n3_ n4_ n5_; (try clear hb); (try clear hb2); (try clear hk); (try clear hi)) | ((with_reducible refine gate_callee (f := 54) rfl ?_); refine goesL_ (some 59) rfl rfl Tryd.func54 (by kernel_rfl) rfl #[.string t877] rfl am ?_; (with_reducible refine (mime_ReadType.calls (hG := by first | exact hG | exact Glob.below hG (by first | exact HB.out | (repeat (first | (with_reducible first | exact HB.out | apply below_alloc | apply pw_below_drewN | apply below_drew1 | refine below_set ?_ GE855.out | refine below_set ?_ GE868.out | refine below_set ?_ GE876.out | refine below_set ?_ GE883.out) | exact HB.out))) | exact Glob.drawn hG (by repeat (first | exact Drawn0.refl _ | apply Drawn0.step))) kj17 t877 t878 t879 t882 _ A48.out).mono ?_); rintro e w94 ⟨v880, rfl, ho0, hb⟩; refine ⟨_, rfl, ?_⟩; have n0_ := Aside0.mk (Kd.R_elder' (by (with_reducible repeat (first | apply Kd.R_alloc | apply Kd.R_drewN | apply Kd.R_drew)); exact HO_869001.out) (Kd.R_base ho0) hb); have n1_ := Aside0.mk (Kd.R_elder' (by (with_reducible repeat (first | apply Kd.R_alloc | apply Kd.R_drewN | apply Kd.R_drew)); exact HO874.out) (Kd.R_base ho0) hb); have n2_ := Aside0.mk (Kd.R_lower (Kd.R_new' (Kd.R_new' ho0 (Kd.R_lt (by (with_reducible repeat (first | apply Kd.R_alloc | apply Kd.R_drewN | apply Kd.R_drew)); exact HO_869001.out))) (Kd.R_lt (by (with_reducible repeat (first | apply Kd.R_alloc | apply Kd.R_drewN | apply Kd.R_drew)); exact HO874.out))) (below_size bwS)); have n3_ := Aside0.mk (blk_below (g := gb855) (o := .cells #[.string a0_0, .slice A0_1 l0_1.length c0_1] 87 (0, 0)) bk hb); have n4_ := Aside0.mk (blk_below (g := gb868) (o := .cells #[.string t863, .slice Ao27 t864.length co27] 91 (0, 0)) bk hb); have n5_ := Aside0.mk (blk_below (g := gb876) (o := .cells #[.string t871, .slice Ao92 t872.length co92] 91 (0, 0)) bk hb); have n6_ := Aside0.mk (below_step bwS hb); clear HO_869001; clear HO874; clear BK855; clear BK868; clear BK876; clear HB; have HO_869001 := n0_; have HO874 := n1_; have HO881 := n2_; have BK855 := n3_; have BK868 := n4_; have BK876 := n5_; have HB := n6_; clear n0_ n1_ n2_ n3_ n4_ n5_ n6_; (try clear hb); (try clear hb2); (try clear hk); (try clear hi); (try clear ho0)) | ((with_reducible refine gate_dst (N := 9) rfl ?_); (try (refine gate_guard (by rfl) ?_; dsimp only)); refine box_event ?hg (N := 9) ?hd (cs := #[.string (⟨#[]⟩ : ByteArray), .slice none 0 0]) (t := 91) ?hr ?_; (case hd => rfl); (case hg => rfl); (case hr => first | (go_simp; done) | (go_simp; rfl)); intro gb883 hg w95 hbox hb; have n0_ := Aside0.mk (Kd.R_below (by (with_reducible repeat (first | apply Kd.R_alloc | apply Kd.R_drewN | apply Kd.R_drew)); exact HO_869001.out) hb); have n1_ := Aside0.mk (Kd.R_below (by (with_reducible repeat (first | apply Kd.R_alloc | apply Kd.R_drewN | apply Kd.R_drew)); exact HO874.out) hb); have n2_ := Aside0.mk (Kd.R_below (by (with_reducible repeat (first | apply Kd.R_alloc | apply Kd.R_drewN | apply Kd.R_drew)); exact HO881.out) hb); have n3_ := Aside0.mk (blk_below (g := gb855) (o := .cells #[.string a0_0, .slice A0_1 l0_1.length c0_1] 87 (0, 0)) bk hb); have n4_ := Aside0.mk (blk_below (g := gb868) (o := .cells #[.string t863, .slice Ao27 t864.length co27] 91 (0, 0)) bk hb); have n5_ := Aside0.mk (blk_below (g := gb876) (o := .cells #[.string t871, .slice Ao92 t872.length co92] 91 (0, 0)) bk hb); have n6_ := Aside0.mk (below_step bwS hb); have n7_ := Aside0.mk (hbox); have n8_ := Aside0.mk ((by rw [hg]; exact (below_size bwS) : w.heap.size ≤ gb883)); have n9_ := Aside0.mk ((by rw [hg]; exact (below_size bwS) : w.heap.size ≤ gb883)); have n10_ := Aside0.mk ((by rw [hg]; exact Nat.ne_of_lt (blk_lt (g := gb855) (o := .cells #[.string a0_0, .slice A0_1 l0_1.length c0_1] 87 (0, 0)) bk) : gb855 ≠ gb883)); have n11_ := Aside0.mk ((by rw [hg]; exact Nat.ne_of_gt (blk_lt (g := gb855) (o := .cells #[.string a0_0, .slice A0_1 l0_1.length c0_1] 87 (0, 0)) bk) : gb883 ≠ gb855)); have n12_ := Aside0.mk ((by rw [hg]; exact Nat.ne_of_lt (blk_lt (g := gb868) (o := .cells #[.string t863, .slice Ao27 t864.length co27] 91 (0, 0)) bk) : gb868 ≠ gb883)); have n13_ := Aside0.mk ((by rw [hg]; exact Nat.ne_of_gt (blk_lt (g := gb868) (o := .cells #[.string t863, .slice Ao27 t864.length co27] 91 (0, 0)) bk) : gb883 ≠ gb868)); have n14_ := Aside0.mk ((by rw [hg]; exact Nat.ne_of_lt (blk_lt (g := gb876) (o := .cells #[.string t871, .slice Ao92 t872.length co92] 91 (0, 0)) bk) : gb876 ≠ gb883)); have n15_ := Aside0.mk ((by rw [hg]; exact Nat.ne_of_gt (blk_lt (g := gb876) (o := .cells #[.string t871, .slice Ao92 t872.length co92] 91 (0, 0)) bk) : gb883 ≠ gb876)); clear HO_869001; clear HO874; clear HO881; clear BK855; clear BK868; clear BK876; clear HB; have HO_869001 := n0_; have HO874 := n1_; have HO881 := n2_; have BK855 := n3_; have BK868 := n4_; have BK876 := n5_; have HB := n6_; have BK883 := n7_; have GW883 := n8_; have GE883 := n9_; have NB855_883 := n10_; have NB883_855 := n11_; have NB868_883 := n12_; have NB883_868 := n13_; have NB876_883 := n14_; have NB883_876 := n15_; clear n0_ n1_ n2_ n3_ n4_ n5_ n6_ n7_ n8_ n9_ n10_ n11_ n12_ n13_ n14_ n15_; clear hb hbox hg; have hnb96 := NB883_855.out; have hnc96 := NB855_883.out; have hnb97 := NB883_868.out; have hnc97 := NB868_883.out; have hnb98 := NB883_876.out; have hnc98 := NB876_883.out; have hcz99_0 : w95.cell? ⟨gb883, 0, none⟩ = some (.string (⟨#[]⟩ : ByteArray)) := (blk_cell BK883.out 0).trans rfl; have hcz99_1 : w95.cell? ⟨gb883, 1, none⟩ = some (.slice none 0 0) := (blk_cell BK883.out 1).trans rfl; have hfz99_0 := blk_frozen BK883.out 0; have hfz99_1 := blk_frozen BK883.out 1; obtain ⟨Ao100, co100, eo100⟩ := Kd.R_slice HO881.out; subst eo100))
          have n0_ : Aside0 (Kd.R k158 158 ((w95.setCell ⟨gb883, 0, none⟩ (.string t878)).setCell ⟨gb883, 1, none⟩ (.slice Ao100 t879.length co100)) w.heap.size (fun k_ => some k_ ≠ (.slice Ao92 t872.length co92 : Value).ownBlock ∧ some k_ ≠ (.slice Ao100 t879.length co100 : Value).ownBlock) (.slice Ao27 t864.length co27) t864) := ⟨by (with_reducible repeat (first | apply Kd.R_alloc | apply Kd.R_drewN | apply Kd.R_drew)); exact Kd.R_mono (Kd.R_far (p := ⟨gb883, 1, none⟩) (Kd.R_far (p := ⟨gb883, 0, none⟩) (Kd.R_types HO_869001.out BK883.out (by decide)) (fun _ hk => hk.2) (.string t878)) (fun _ hk => hk.2) (.slice Ao100 t879.length co100)) (fun _ hk => ⟨hk.1.1.2, hk.1.2⟩)⟩
          have n1_ : Aside0 (Kd.R k158 158 ((w95.setCell ⟨gb883, 0, none⟩ (.string t878)).setCell ⟨gb883, 1, none⟩ (.slice Ao100 t879.length co100)) w.heap.size (fun k_ => some k_ ≠ (.slice Ao27 t864.length co27 : Value).ownBlock ∧ some k_ ≠ (.slice Ao100 t879.length co100 : Value).ownBlock) (.slice Ao92 t872.length co92) t872) := ⟨by (with_reducible repeat (first | apply Kd.R_alloc | apply Kd.R_drewN | apply Kd.R_drew)); exact Kd.R_mono (Kd.R_far (p := ⟨gb883, 1, none⟩) (Kd.R_far (p := ⟨gb883, 0, none⟩) (Kd.R_types HO874.out BK883.out (by decide)) (fun _ hk => hk.2) (.string t878)) (fun _ hk => hk.2) (.slice Ao100 t879.length co100)) (fun _ hk => ⟨hk.1.1.2, hk.1.2⟩)⟩
          have n2_ : Aside0 (Kd.R k158 158 ((w95.setCell ⟨gb883, 0, none⟩ (.string t878)).setCell ⟨gb883, 1, none⟩ (.slice Ao100 t879.length co100)) w.heap.size (fun k_ => some k_ ≠ (.slice Ao27 t864.length co27 : Value).ownBlock ∧ some k_ ≠ (.slice Ao92 t872.length co92 : Value).ownBlock) (.slice Ao100 t879.length co100) t879) := ⟨by (with_reducible repeat (first | apply Kd.R_alloc | apply Kd.R_drewN | apply Kd.R_drew)); exact Kd.R_mono (Kd.R_far (p := ⟨gb883, 1, none⟩) (Kd.R_far (p := ⟨gb883, 0, none⟩) (Kd.R_types HO881.out BK883.out (by decide)) (fun _ hk => hk.2) (.string t878)) (fun _ hk => hk.2) (.slice Ao100 t879.length co100)) (fun _ hk => ⟨hk.1.1.2, hk.1.2⟩)⟩
          have n3_ : Aside0 (((w95.setCell ⟨gb883, 0, none⟩ (.string t878)).setCell ⟨gb883, 1, none⟩ (.slice Ao100 t879.length co100)).heap[gb855]? = some (.cells #[.string a0_0, .slice A0_1 l0_1.length c0_1] 87 (0, 0))) := ⟨by (with_reducible repeat (first | refine blk_drewN ?_ _ | refine blk_drew ?_ | refine blk_alloc ?_ _)); refine blk_far ?_ NB855_883.out _; (with_reducible repeat (first | refine blk_drewN ?_ _ | refine blk_drew ?_ | refine blk_alloc ?_ _)); refine blk_far ?_ NB855_883.out _; (with_reducible repeat (first | refine blk_drewN ?_ _ | refine blk_drew ?_ | refine blk_alloc ?_ _)); exact BK855.out⟩
          have n4_ : Aside0 (((w95.setCell ⟨gb883, 0, none⟩ (.string t878)).setCell ⟨gb883, 1, none⟩ (.slice Ao100 t879.length co100)).heap[gb868]? = some (.cells #[.string t863, .slice Ao27 t864.length co27] 91 (0, 0))) := ⟨by (with_reducible repeat (first | refine blk_drewN ?_ _ | refine blk_drew ?_ | refine blk_alloc ?_ _)); refine blk_far ?_ NB868_883.out _; (with_reducible repeat (first | refine blk_drewN ?_ _ | refine blk_drew ?_ | refine blk_alloc ?_ _)); refine blk_far ?_ NB868_883.out _; (with_reducible repeat (first | refine blk_drewN ?_ _ | refine blk_drew ?_ | refine blk_alloc ?_ _)); exact BK868.out⟩
          have n5_ : Aside0 (((w95.setCell ⟨gb883, 0, none⟩ (.string t878)).setCell ⟨gb883, 1, none⟩ (.slice Ao100 t879.length co100)).heap[gb876]? = some (.cells #[.string t871, .slice Ao92 t872.length co92] 91 (0, 0))) := ⟨by (with_reducible repeat (first | refine blk_drewN ?_ _ | refine blk_drew ?_ | refine blk_alloc ?_ _)); refine blk_far ?_ NB876_883.out _; (with_reducible repeat (first | refine blk_drewN ?_ _ | refine blk_drew ?_ | refine blk_alloc ?_ _)); refine blk_far ?_ NB876_883.out _; (with_reducible repeat (first | refine blk_drewN ?_ _ | refine blk_drew ?_ | refine blk_alloc ?_ _)); exact BK876.out⟩
          have n6_ : Aside0 (((w95.setCell ⟨gb883, 0, none⟩ (.string t878)).setCell ⟨gb883, 1, none⟩ (.slice Ao100 t879.length co100)).heap[gb883]? = some (.cells #[.string t878, .slice Ao100 t879.length co100] 91 (0, 0))) := ⟨by (with_reducible repeat (first | refine blk_drewN ?_ _ | refine blk_drew ?_ | refine blk_alloc ?_ _)); refine blk_put (cs := #[.string t878, .slice none 0 0]) ?_ 1 _ rfl; (with_reducible repeat (first | refine blk_drewN ?_ _ | refine blk_drew ?_ | refine blk_alloc ?_ _)); refine blk_put (cs := #[.string (⟨#[]⟩ : ByteArray), .slice none 0 0]) ?_ 0 _ rfl; (with_reducible repeat (first | refine blk_drewN ?_ _ | refine blk_drew ?_ | refine blk_alloc ?_ _)); exact BK883.out⟩
          have n7_ : Aside0 (Below w.heap.size w ((w95.setCell ⟨gb883, 0, none⟩ (.string t878)).setCell ⟨gb883, 1, none⟩ (.slice Ao100 t879.length co100))) := ⟨bwS⟩
          (try clear HO_869001)
          (try clear HO874)
          (try clear HO881)
          (try clear BK855)
          (try clear BK868)
          (try clear BK876)
          (try clear BK883)
          (try clear HB)
          generalize ((w95.setCell ⟨gb883, 0, none⟩ (.string t878)).setCell ⟨gb883, 1, none⟩ (.slice Ao100 t879.length co100)) = w101 at n0_ n1_ n2_ n3_ n4_ n5_ n6_ n7_ ⊢
          have HO_869001 := n0_
          have HO874 := n1_
          have HO881 := n2_
          have BK855 := n3_
          have BK868 := n4_
          have BK876 := n5_
          have BK883 := n6_
          have HB := n7_
          clear n0_ n1_ n2_ n3_ n4_ n5_ n6_ n7_
          have n0_ := Aside0.mk (Kd.R_drew HO_869001.out)
          have n1_ := Aside0.mk (Kd.R_drew HO874.out)
          have n2_ := Aside0.mk (Kd.R_drew HO881.out)
          have n3_ := Aside0.mk (blk_drew BK855.out)
          have n4_ := Aside0.mk (blk_drew BK868.out)
          have n5_ := Aside0.mk (blk_drew BK876.out)
          have n6_ := Aside0.mk (blk_drew BK883.out)
          have n7_ := Aside0.mk (below_drew1 HB.out)
          clear HO_869001
          clear HO874
          clear HO881
          clear BK855
          clear BK868
          clear BK876
          clear BK883
          clear HB
          have HO_869001 := n0_
          have HO874 := n1_
          have HO881 := n2_
          have BK855 := n3_
          have BK868 := n4_
          have BK876 := n5_
          have BK883 := n6_
          have HB := n7_
          clear n0_ n1_ n2_ n3_ n4_ n5_ n6_ n7_
          refine start_ (n := 17) (S := fun w' => True) (ds := []) #[false, false, false, false, false, false, false, false, false, false, false, false, false, false, false, false, false] (by kernel_rfl) rfl rfl trivial (fun hHeld => ?_); refine with_tabW bulletinlaw20_MimeTypeBack.tab12 bulletinlaw20_MimeTypeBack.bits12 (fun HT_ HW_ => ?_)
          generalize w101.drew = w102 at HO_869001 HO874 HO881 BK855 BK868 BK876 BK883 HB hHeld ⊢
          refine pure_ (i := 0) (N := some 62) (v := ?_) (a' := ?_) (bitsL 17 1) rfl rfl (any_of HT_.out (by kernel_rfl)) (fun _ _ _ h => h) (Or.inl ⟨by rfl, ?_⟩) ?_ ?_
          rotate_left
          ·intro w'
           go_simp
           with_reducible rfl
          rotate_left
          ·simp only [Act.put, List.setIfInBounds_toArray, List.set_cons_zero, List.set_cons_succ, i64_w, i32_w]
           rfl
          refine pure_ (i := 1) (N := some 63) (v := ?_) (a' := ?_) (bitsL 17 3) rfl rfl (any_of HT_.out (by kernel_rfl)) (fun _ _ _ h => h) (Or.inl ⟨by rfl, ?_⟩) ?_ ?_
          rotate_left
          ·intro w'
           go_simp
           with_reducible rfl
          rotate_left
          ·simp only [Act.put, List.setIfInBounds_toArray, List.set_cons_zero, List.set_cons_succ, i64_w, i32_w]
           rfl
          refine pure_ (i := 2) (N := some 64) (v := ?_) (a' := ?_) (bitsL 17 7) rfl rfl (any_of HT_.out (by kernel_rfl)) (fun _ _ _ h => h) (Or.inl ⟨by rfl, ?_⟩) ?_ ?_
          rotate_left
          ·intro w'
           go_simp
           with_reducible rfl
          rotate_left
          ·simp only [Act.put, List.setIfInBounds_toArray, List.set_cons_zero, List.set_cons_succ, i64_w, i32_w]
           rfl
          refine pure_ (i := 3) (N := some 65) (v := undef) (a' := ?_) (bitsL 17 15) rfl rfl (any_of HT_.out (by kernel_rfl)) (fun _ _ _ h => h) (Or.inr ⟨by rfl, rfl⟩) ?_ ?_
          rotate_left
          ·simp only [Act.put, List.setIfInBounds_toArray, List.set_cons_zero, List.set_cons_succ, i64_w, i32_w]
           rfl
          refine pure_ (i := 4) (N := some 66) (v := undef) (a' := ?_) (bitsL 17 31) rfl rfl (any_of HT_.out (by kernel_rfl)) (fun _ _ _ h => h) (Or.inr ⟨by rfl, rfl⟩) ?_ ?_
          rotate_left
          ·simp only [Act.put, List.setIfInBounds_toArray, List.set_cons_zero, List.set_cons_succ, i64_w, i32_w]
           rfl
          refine pure_ (i := 5) (N := some 67) (v := undef) (a' := ?_) (bitsL 17 63) rfl rfl (any_of HT_.out (by kernel_rfl)) (fun _ _ _ h => h) (Or.inr ⟨by rfl, rfl⟩) ?_ ?_
          rotate_left
          ·simp only [Act.put, List.setIfInBounds_toArray, List.set_cons_zero, List.set_cons_succ, i64_w, i32_w]
           rfl
          refine pure_ (i := 6) (N := some 68) (v := undef) (a' := ?_) (bitsL 17 127) rfl rfl (any_of HT_.out (by kernel_rfl)) (fun _ _ _ h => h) (Or.inr ⟨by rfl, rfl⟩) ?_ ?_
          rotate_left
          ·simp only [Act.put, List.setIfInBounds_toArray, List.set_cons_zero, List.set_cons_succ, i64_w, i32_w]
           rfl
          refine pure_ (i := 7) (N := some 69) (v := undef) (a' := ?_) (bitsL 17 255) rfl rfl (any_of HT_.out (by kernel_rfl)) (fun _ _ _ h => h) (Or.inr ⟨by rfl, rfl⟩) ?_ ?_
          rotate_left
          ·simp only [Act.put, List.setIfInBounds_toArray, List.set_cons_zero, List.set_cons_succ, i64_w, i32_w]
           rfl
          refine pure_ (i := 8) (N := some 70) (v := ?_) (a' := ?_) (bitsL 17 511) rfl rfl (any_of HT_.out (by kernel_rfl)) (fun _ _ _ h => h) (Or.inl ⟨by rfl, ?_⟩) ?_ ?_
          rotate_left
          ·intro w'
           go_simp
           with_reducible rfl
          rotate_left
          ·simp only [Act.put, List.setIfInBounds_toArray, List.set_cons_zero, List.set_cons_succ, i64_w, i32_w]
           rfl
          refine pure_ (i := 9) (N := some 71) (v := ?_) (a' := ?_) (bitsL 17 1023) rfl rfl (any_of HT_.out (by kernel_rfl)) (fun _ _ _ h => h) (Or.inl ⟨by rfl, ?_⟩) ?_ ?_
          rotate_left
          ·intro w'
           go_simp
           with_reducible rfl
          rotate_left
          ·simp only [Act.put, List.setIfInBounds_toArray, List.set_cons_zero, List.set_cons_succ, i64_w, i32_w]
           rfl
          refine pure_ (i := 10) (N := some 72) (v := undef) (a' := ?_) (bitsL 17 2047) rfl rfl (any_of HT_.out (by kernel_rfl)) (fun _ _ _ h => h) (Or.inr ⟨by rfl, rfl⟩) ?_ ?_
          rotate_left
          ·simp only [Act.put, List.setIfInBounds_toArray, List.set_cons_zero, List.set_cons_succ, i64_w, i32_w]
           rfl
          refine pure_ (i := 11) (N := some 73) (v := undef) (a' := ?_) (bitsL 17 4095) rfl rfl (any_of HT_.out (by kernel_rfl)) (fun _ _ _ h => h) (Or.inr ⟨by rfl, rfl⟩) ?_ ?_
          rotate_left
          ·simp only [Act.put, List.setIfInBounds_toArray, List.set_cons_zero, List.set_cons_succ, i64_w, i32_w]
           rfl
          refine pure_ (i := 12) (N := some 74) (v := undef) (a' := ?_) (bitsL 17 8191) rfl rfl (any_of HT_.out (by kernel_rfl)) (fun _ _ _ h => h) (Or.inr ⟨by rfl, rfl⟩) ?_ ?_
          rotate_left
          ·simp only [Act.put, List.setIfInBounds_toArray, List.set_cons_zero, List.set_cons_succ, i64_w, i32_w]
           rfl
          refine pure_ (i := 13) (N := some 75) (v := undef) (a' := ?_) (bitsL 17 16383) rfl rfl (any_of HT_.out (by kernel_rfl)) (fun _ _ _ h => h) (Or.inr ⟨by rfl, rfl⟩) ?_ ?_
          rotate_left
          ·simp only [Act.put, List.setIfInBounds_toArray, List.set_cons_zero, List.set_cons_succ, i64_w, i32_w]
           rfl
          refine pure_ (i := 14) (N := some 76) (v := undef) (a' := ?_) (bitsL 17 32767) rfl rfl (any_of HT_.out (by kernel_rfl)) (fun _ _ _ h => h) (Or.inr ⟨by rfl, rfl⟩) ?_ ?_
          rotate_left
          ·simp only [Act.put, List.setIfInBounds_toArray, List.set_cons_zero, List.set_cons_succ, i64_w, i32_w]
           rfl
          refine pure_ (i := 15) (N := some 77) (v := ?_) (a' := ?_) (bitsL 17 65535) rfl rfl (any_of HT_.out (by kernel_rfl)) (fun _ _ _ h => h) (Or.inl ⟨by rfl, ?_⟩) ?_ ?_
          rotate_left
          ·intro w'
           go_simp
           with_reducible rfl
          rotate_left
          ·simp only [Act.put, List.setIfInBounds_toArray, List.set_cons_zero, List.set_cons_succ, i64_w, i32_w]
           rfl
          refine pure_ (i := 16) (N := some 4) (v := ?_) (a' := ?_) (bitsL 17 131071) rfl rfl (any_of HT_.out (by kernel_rfl)) (fun _ _ _ h => h) (Or.inl ⟨by rfl, ?_⟩) ?_ ?_
          rotate_left
          ·intro w'
           go_simp
           with_reducible rfl
          rotate_left
          ·simp only [Act.put, List.setIfInBounds_toArray, List.set_cons_zero, List.set_cons_succ, i64_w, i32_w]
           rfl
          refine done_ (done_of HT_.out (by kernel_rfl)) ?_
          try go_wp2
          go_ret
          exact ⟨by first | rfl | (simp [errW_none, errW_some] <;> rfl) | (simp [*, errW_none, errW_some] <;> rfl), bwS⟩
        ·rw [if_neg c46] at H
         have c46b0 : (t875 == 0) = false := beq_eq_false_iff_ne.mpr c46
         have c46b1 : (t875 != 0) = true := bne_iff_ne.mpr c46
         by_cases c103 : t871.toList = ([] : List UInt8)
         ·rw [if_pos c103] at H
          have c103b0 : (t871.toList == ([] : List UInt8)) = true := beq_iff_eq.mpr c103
          have c103b1 : (t871.toList != ([] : List UInt8)) = false := bne_eq_false_iff_eq.mpr c103
          clear c103
          obtain rfl := Option.some.inj H
          go_wp2_with (first | ((with_reducible refine gate_callee (f := 54) rfl ?_); refine goesL_ (some 42) rfl rfl Tryd.func54 (by kernel_rfl) rfl #[.string a1] rfl am ?_; (with_reducible refine (mime_ReadType.calls (hG := by first | exact hG | exact Glob.below hG (by first | exact HB.out | (repeat (first | (with_reducible first | exact HB.out | apply below_alloc | apply pw_below_drewN | apply below_drew1 | refine below_set ?_ GE855.out | refine below_set ?_ GE868.out | refine below_set ?_ GE876.out | refine below_set ?_ GE883.out) | exact HB.out))) | exact Glob.drawn hG (by repeat (first | exact Drawn0.refl _ | apply Drawn0.step))) kj17 a1 t871 t872 t875 _ A45.out).mono ?_); rintro e w104 ⟨v873, rfl, ho0, hb⟩; refine ⟨_, rfl, ?_⟩; have n0_ := Aside0.mk (Kd.R_elder' (by (with_reducible repeat (first | apply Kd.R_alloc | apply Kd.R_drewN | apply Kd.R_drew)); exact HO_869001.out) (Kd.R_base ho0) hb); have n1_ := Aside0.mk (Kd.R_lower (Kd.R_new' ho0 (Kd.R_lt (by (with_reducible repeat (first | apply Kd.R_alloc | apply Kd.R_drewN | apply Kd.R_drew)); exact HO_869001.out))) (below_size bwS)); have n2_ := Aside0.mk (blk_below (g := gb855) (o := .cells #[.string a0_0, .slice A0_1 l0_1.length c0_1] 87 (0, 0)) bk hb); have n3_ := Aside0.mk (blk_below (g := gb868) (o := .cells #[.string t863, .slice Ao27 t864.length co27] 91 (0, 0)) bk hb); have n4_ := Aside0.mk (below_step bwS hb); clear HO_869001; clear BK855; clear BK868; clear HB; have HO_869001 := n0_; have HO874 := n1_; have BK855 := n2_; have BK868 := n3_; have HB := n4_; clear n0_ n1_ n2_ n3_ n4_; (try clear hb); (try clear hb2); (try clear hk); (try clear hi); (try clear ho0)) | ((with_reducible refine gate_dst (N := 7) rfl ?_); (try (refine gate_guard (by rfl) ?_; dsimp only)); refine box_event ?hg (N := 7) ?hd (cs := #[.string (⟨#[]⟩ : ByteArray), .slice none 0 0]) (t := 91) ?hr ?_; (case hd => rfl); (case hg => rfl); (case hr => first | (go_simp; done) | (go_simp; rfl)); intro gb876 hg w105 hbox hb; have n0_ := Aside0.mk (Kd.R_below (by (with_reducible repeat (first | apply Kd.R_alloc | apply Kd.R_drewN | apply Kd.R_drew)); exact HO_869001.out) hb); have n1_ := Aside0.mk (Kd.R_below (by (with_reducible repeat (first | apply Kd.R_alloc | apply Kd.R_drewN | apply Kd.R_drew)); exact HO874.out) hb); have n2_ := Aside0.mk (blk_below (g := gb855) (o := .cells #[.string a0_0, .slice A0_1 l0_1.length c0_1] 87 (0, 0)) bk hb); have n3_ := Aside0.mk (blk_below (g := gb868) (o := .cells #[.string t863, .slice Ao27 t864.length co27] 91 (0, 0)) bk hb); have n4_ := Aside0.mk (below_step bwS hb); have n5_ := Aside0.mk (hbox); have n6_ := Aside0.mk ((by rw [hg]; exact (below_size bwS) : w.heap.size ≤ gb876)); have n7_ := Aside0.mk ((by rw [hg]; exact (below_size bwS) : w.heap.size ≤ gb876)); have n8_ := Aside0.mk ((by rw [hg]; exact Nat.ne_of_lt (blk_lt (g := gb855) (o := .cells #[.string a0_0, .slice A0_1 l0_1.length c0_1] 87 (0, 0)) bk) : gb855 ≠ gb876)); have n9_ := Aside0.mk ((by rw [hg]; exact Nat.ne_of_gt (blk_lt (g := gb855) (o := .cells #[.string a0_0, .slice A0_1 l0_1.length c0_1] 87 (0, 0)) bk) : gb876 ≠ gb855)); have n10_ := Aside0.mk ((by rw [hg]; exact Nat.ne_of_lt (blk_lt (g := gb868) (o := .cells #[.string t863, .slice Ao27 t864.length co27] 91 (0, 0)) bk) : gb868 ≠ gb876)); have n11_ := Aside0.mk ((by rw [hg]; exact Nat.ne_of_gt (blk_lt (g := gb868) (o := .cells #[.string t863, .slice Ao27 t864.length co27] 91 (0, 0)) bk) : gb876 ≠ gb868)); clear HO_869001; clear HO874; clear BK855; clear BK868; clear HB; have HO_869001 := n0_; have HO874 := n1_; have BK855 := n2_; have BK868 := n3_; have HB := n4_; have BK876 := n5_; have GW876 := n6_; have GE876 := n7_; have NB855_876 := n8_; have NB876_855 := n9_; have NB868_876 := n10_; have NB876_868 := n11_; clear n0_ n1_ n2_ n3_ n4_ n5_ n6_ n7_ n8_ n9_ n10_ n11_; clear hb hbox hg; have hnb106 := NB876_855.out; have hnc106 := NB855_876.out; have hnb107 := NB876_868.out; have hnc107 := NB868_876.out; have hcz108_0 : w105.cell? ⟨gb876, 0, none⟩ = some (.string (⟨#[]⟩ : ByteArray)) := (blk_cell BK876.out 0).trans rfl; have hcz108_1 : w105.cell? ⟨gb876, 1, none⟩ = some (.slice none 0 0) := (blk_cell BK876.out 1).trans rfl; have hfz108_0 := blk_frozen BK876.out 0; have hfz108_1 := blk_frozen BK876.out 1; obtain ⟨Ao109, co109, eo109⟩ := Kd.R_slice HO874.out; subst eo109))
          go_ret
          exact ⟨by first | rfl | (simp [errW_none, errW_some] <;> rfl) | (simp [*, errW_none, errW_some] <;> rfl), bwS⟩
         ·rw [if_neg c103] at H
          have c103b0 : (t871.toList == ([] : List UInt8)) = false := beq_eq_false_iff_ne.mpr c103
          have c103b1 : (t871.toList != ([] : List UInt8)) = true := bne_iff_ne.mpr c103
          obtain rfl := Option.some.inj H
          go_wp2_with (first | ((with_reducible refine gate_callee (f := 54) rfl ?_); refine goesL_ (some 42) rfl rfl Tryd.func54 (by kernel_rfl) rfl #[.string a1] rfl am ?_; (with_reducible refine (mime_ReadType.calls (hG := by first | exact hG | exact Glob.below hG (by first | exact HB.out | (repeat (first | (with_reducible first | exact HB.out | apply below_alloc | apply pw_below_drewN | apply below_drew1 | refine below_set ?_ GE855.out | refine below_set ?_ GE868.out | refine below_set ?_ GE876.out | refine below_set ?_ GE883.out) | exact HB.out))) | exact Glob.drawn hG (by repeat (first | exact Drawn0.refl _ | apply Drawn0.step))) kj17 a1 t871 t872 t875 _ A45.out).mono ?_); rintro e w110 ⟨v873, rfl, ho0, hb⟩; refine ⟨_, rfl, ?_⟩; have n0_ := Aside0.mk (Kd.R_elder' (by (with_reducible repeat (first | apply Kd.R_alloc | apply Kd.R_drewN | apply Kd.R_drew)); exact HO_869001.out) (Kd.R_base ho0) hb); have n1_ := Aside0.mk (Kd.R_lower (Kd.R_new' ho0 (Kd.R_lt (by (with_reducible repeat (first | apply Kd.R_alloc | apply Kd.R_drewN | apply Kd.R_drew)); exact HO_869001.out))) (below_size bwS)); have n2_ := Aside0.mk (blk_below (g := gb855) (o := .cells #[.string a0_0, .slice A0_1 l0_1.length c0_1] 87 (0, 0)) bk hb); have n3_ := Aside0.mk (blk_below (g := gb868) (o := .cells #[.string t863, .slice Ao27 t864.length co27] 91 (0, 0)) bk hb); have n4_ := Aside0.mk (below_step bwS hb); clear HO_869001; clear BK855; clear BK868; clear HB; have HO_869001 := n0_; have HO874 := n1_; have BK855 := n2_; have BK868 := n3_; have HB := n4_; clear n0_ n1_ n2_ n3_ n4_; (try clear hb); (try clear hb2); (try clear hk); (try clear hi); (try clear ho0)) | ((with_reducible refine gate_dst (N := 7) rfl ?_); (try (refine gate_guard (by rfl) ?_; dsimp only)); refine box_event ?hg (N := 7) ?hd (cs := #[.string (⟨#[]⟩ : ByteArray), .slice none 0 0]) (t := 91) ?hr ?_; (case hd => rfl); (case hg => rfl); (case hr => first | (go_simp; done) | (go_simp; rfl)); intro gb876 hg w111 hbox hb; have n0_ := Aside0.mk (Kd.R_below (by (with_reducible repeat (first | apply Kd.R_alloc | apply Kd.R_drewN | apply Kd.R_drew)); exact HO_869001.out) hb); have n1_ := Aside0.mk (Kd.R_below (by (with_reducible repeat (first | apply Kd.R_alloc | apply Kd.R_drewN | apply Kd.R_drew)); exact HO874.out) hb); have n2_ := Aside0.mk (blk_below (g := gb855) (o := .cells #[.string a0_0, .slice A0_1 l0_1.length c0_1] 87 (0, 0)) bk hb); have n3_ := Aside0.mk (blk_below (g := gb868) (o := .cells #[.string t863, .slice Ao27 t864.length co27] 91 (0, 0)) bk hb); have n4_ := Aside0.mk (below_step bwS hb); have n5_ := Aside0.mk (hbox); have n6_ := Aside0.mk ((by rw [hg]; exact (below_size bwS) : w.heap.size ≤ gb876)); have n7_ := Aside0.mk ((by rw [hg]; exact (below_size bwS) : w.heap.size ≤ gb876)); have n8_ := Aside0.mk ((by rw [hg]; exact Nat.ne_of_lt (blk_lt (g := gb855) (o := .cells #[.string a0_0, .slice A0_1 l0_1.length c0_1] 87 (0, 0)) bk) : gb855 ≠ gb876)); have n9_ := Aside0.mk ((by rw [hg]; exact Nat.ne_of_gt (blk_lt (g := gb855) (o := .cells #[.string a0_0, .slice A0_1 l0_1.length c0_1] 87 (0, 0)) bk) : gb876 ≠ gb855)); have n10_ := Aside0.mk ((by rw [hg]; exact Nat.ne_of_lt (blk_lt (g := gb868) (o := .cells #[.string t863, .slice Ao27 t864.length co27] 91 (0, 0)) bk) : gb868 ≠ gb876)); have n11_ := Aside0.mk ((by rw [hg]; exact Nat.ne_of_gt (blk_lt (g := gb868) (o := .cells #[.string t863, .slice Ao27 t864.length co27] 91 (0, 0)) bk) : gb876 ≠ gb868)); clear HO_869001; clear HO874; clear BK855; clear BK868; clear HB; have HO_869001 := n0_; have HO874 := n1_; have BK855 := n2_; have BK868 := n3_; have HB := n4_; have BK876 := n5_; have GW876 := n6_; have GE876 := n7_; have NB855_876 := n8_; have NB876_855 := n9_; have NB868_876 := n10_; have NB876_868 := n11_; clear n0_ n1_ n2_ n3_ n4_ n5_ n6_ n7_ n8_ n9_ n10_ n11_; clear hb hbox hg; have hnb112 := NB876_855.out; have hnc112 := NB855_876.out; have hnb113 := NB876_868.out; have hnc113 := NB868_876.out; have hcz114_0 : w111.cell? ⟨gb876, 0, none⟩ = some (.string (⟨#[]⟩ : ByteArray)) := (blk_cell BK876.out 0).trans rfl; have hcz114_1 : w111.cell? ⟨gb876, 1, none⟩ = some (.slice none 0 0) := (blk_cell BK876.out 1).trans rfl; have hfz114_0 := blk_frozen BK876.out 0; have hfz114_1 := blk_frozen BK876.out 1; obtain ⟨Ao115, co115, eo115⟩ := Kd.R_slice HO874.out; subst eo115))
          go_ret
          exact ⟨by first | rfl | (simp [errW_none, errW_some] <;> rfl) | (simp [*, errW_none, errW_some] <;> rfl), bwS⟩
 ·replace c4 := Bool.eq_false_iff.mpr c4
  subst c4
  have H1 : (some false) = some r := by rw [if_neg (show ¬ (false = true) by decide)] at H; exact H
  clear H
  have H := H1
  clear H1
  obtain rfl := Option.some.inj H
  go_enter Tryd.func15, Tryd.ntmps15
  go_wp2_with (first | ((with_reducible refine gate_dst (N := 2) rfl ?_); (try (refine gate_guard (by rfl) ?_; dsimp only)); refine box_event ?hg (N := 2) ?hd (cs := #[.string a0_0, .slice A0_1 l0_1.length c0_1]) (t := 87) ?hr ?_; (case hd => rfl); (case hg => rfl); (case hr => first | (go_simp; done) | (go_simp; rfl)); intro gb855 hg w116 hbox hb; have n0_ := Aside0.mk (below_step bw hb); have n1_ := Aside0.mk (hbox); have n2_ := Aside0.mk ((by rw [hg]; exact (below_size bw) : w.heap.size ≤ gb855)); have n3_ := Aside0.mk ((by rw [hg]; exact (below_size bw) : w.heap.size ≤ gb855)); clear HB; have HB := n0_; have BK855 := n1_; have GW855 := n2_; have GE855 := n3_; clear n0_ n1_ n2_ n3_; clear hb hbox hg) | ((with_reducible refine gate_callee (f := 53) rfl ?_); refine goesL_ (some 11) rfl rfl Tryd.func53 (by kernel_rfl) rfl #[] rfl am ?_; (with_reducible refine (bulletinlaw20_works.calls (hG := by first | exact hG | exact Glob.below hG (by first | exact HB.out | (repeat (first | (with_reducible first | exact HB.out | apply below_alloc | apply pw_below_drewN | apply below_drew1 | refine below_set ?_ GE855.out | refine below_set ?_ GE868.out | refine below_set ?_ GE876.out | refine below_set ?_ GE883.out) | exact HB.out))) | exact Glob.drawn hG (by repeat (first | exact Drawn0.refl _ | apply Drawn0.step))) k  false _ A3.out).mono ?_); rintro e w117 ⟨rfl, hb⟩; refine ⟨_, rfl, ?_⟩; have n0_ := Aside0.mk (blk_below (g := gb855) (o := .cells #[.string a0_0, .slice A0_1 l0_1.length c0_1] 87 (0, 0)) bk hb); have n1_ := Aside0.mk (below_step bwS hb); clear BK855; clear HB; have BK855 := n0_; have HB := n1_; clear n0_ n1_; (try clear hb); (try clear hb2); (try clear hk); (try clear hi)))
  go_ret
  exact ⟨by first | rfl | (simp [errW_none, errW_some] <;> rfl) | (simp [*, errW_none, errW_some] <;> rfl), bwS⟩

end Go.Proofs.YtgaaogijfikfeaaDoor.Fn
set_option linter.unusedVariables false
namespace Go.Proofs.YtgaaogijfikfeaaDoor.Pl
open Go.RowKit Go.Proofs.YtgaaogijfikfeaaDoorW.PrintWords Go.Proofs.YtgaaogijfikfeaaDoor.Fn

/-! Layer 12, the program's and the document's: which bytes are atomic; atoms. -/
def atomic (c : UInt8) : Bool := (lex_atomic.f (c.toNat : Int)).getD false
theorem atomic_is (c : UInt8) : lex_atomic.f (c.toNat : Int) = some (atomic c) := by
  have : ∀ x : Int, (lex_atomic.f x).isSome := by
    intro x
    unfold lex_atomic.f strings_IndexByte.f
    simp only [Option.bind_some]
    repeat' split
    all_goals rfl
  unfold atomic
  have h := this (c.toNat : Int)
  cases hx : lex_atomic.f (c.toNat : Int) with
  | none => rw [hx] at h; cases h
  | some b => rfl
def isAtom (s : ByteArray) : Bool := (bs s).all atomic && !(bs s).isEmpty
theorem lexIsAtom_l0 (s : ByteArray) (hs : s.size ≤ 140737488355328) : ∀ (rest : Bytes) (i k : Nat), (bs s).drop i = rest → i ≤ (bs s).length → rest.length + 1 ≤ k →
    lex_IsAtom.l0 k s (s.size : Int) (i : Int) = some (rest.all atomic && !(bs s).isEmpty)
  | [], i, k, hd, hi, hk => by
    obtain ⟨k, rfl⟩ : ∃ j, k = j + 1 := ⟨k - 1, by omega⟩
    have := drop_nil hd
    rw [lex_IsAtom.l0, if_neg (by rw [bs_length] at this; omega), toList_bs]
    cases bs s <;> simp
  | c :: rest, i, k, hd, hi, hk => by
    obtain ⟨k, rfl⟩ : ∃ j, k = j + 1 := ⟨k - 1, by omega⟩
    obtain ⟨h1, h2, h3, h4⟩ := drop_cons hd
    have h5 : i < s.size := by rw [bs_length] at h1; exact h1
    rw [lex_IsAtom.l0, if_pos (by omega), if_pos (by omega), if_pos (by omega), bt_drop hd, atomic_is, Option.bind_some]
    cases ha : atomic c with
    | true =>
      rw [if_pos rfl, wrap_succ i (by omega), lexIsAtom_l0 s hs rest (i + 1) k h3 (by omega) (by simp at hk; omega)]
      simp [ha]
    | false =>
      rw [if_neg (by simp)]
      simp [ha]
theorem lexIsAtom_is (s : ByteArray) (hs : s.size ≤ 140737488355328) (k : Nat) (hk : s.size + 1 ≤ k) : lex_IsAtom.f k s = some (isAtom s) := by
  have := lexIsAtom_l0 s hs (bs s) 0 k (by simp) (by omega) (by rw [bs_length]; omega)
  unfold lex_IsAtom.f isAtom
  exact this
end Go.Proofs.YtgaaogijfikfeaaDoor.Pl
namespace Go.Proofs.YtgaaogijfikfeaaDoor.Fn
open Go.RowKit Go.Proofs.YtgaaogijfikfeaaDoorW.PrintWords Go.Proofs.YtgaaogijfikfeaaDoorW.PrintLast Go.Proofs.YtgaaogijfikfeaaDoorW.PrintMore
attribute [local go_sem] max2_int min2_int max_two min_two max_three min_three max_four min_four
set_option linter.unusedVariables false
set_option linter.unusedSimpArgs false

/-! ### addr_labelled: function 183 -/
def addr_labelled.f (a0 : Int) : Option (Bool) := if a0 ≥ 97 then (if a0 ≤ 122 then (some true) else (if a0 ≥ 65 then (if a0 ≤ 90 then (some true) else (if a0 ≥ 48 then (if a0 ≤ 57 then (some true) else (some (a0 == 45))) else (some (a0 == 45)))) else (if a0 ≥ 48 then (if a0 ≤ 57 then (some true) else (some (a0 == 45))) else (some (a0 == 45))))) else (if a0 ≥ 65 then (if a0 ≤ 90 then (some true) else (if a0 ≥ 48 then (if a0 ≤ 57 then (some true) else (some (a0 == 45))) else (some (a0 == 45)))) else (if a0 ≥ 48 then (if a0 ≤ 57 then (some true) else (some (a0 == 45))) else (some (a0 == 45))))
end Go.Proofs.YtgaaogijfikfeaaDoor.Fn
namespace Go.Proofs.YtgaaogijfikfeaaDoor.Fn
open Go.RowKit Go.Proofs.YtgaaogijfikfeaaDoorW.PrintWords Go.Proofs.YtgaaogijfikfeaaDoorW.PrintLast Go.Proofs.YtgaaogijfikfeaaDoorW.PrintMore
attribute [local go_sem] max2_int min2_int max_two min_two max_three min_three max_four min_four
set_option linter.unusedVariables false
set_option linter.unusedSimpArgs false

/-! ### addr_label: function 149 -/
end Go.Proofs.YtgaaogijfikfeaaDoor.Fn
set_option linter.unusedVariables false
namespace Go.Proofs.YtgaaogijfikfeaaDoor.Pl
open Go.RowKit Go.Proofs.YtgaaogijfikfeaaDoorW.PrintWords Go.Proofs.YtgaaogijfikfeaaDoor.Fn

/-! Layer 13, the program's: labels. -/
def labelled (c : UInt8) : Bool := (addr_labelled.f (c.toNat : Int)).getD false
def labelL (l : Bytes) : Bool := l.all labelled && (match l.head?, l.getLast? with | some a, some b => a != 45 && b != 45 | _, _ => false)
def label (s : ByteArray) : Bool := labelL (bs s)
end Go.Proofs.YtgaaogijfikfeaaDoor.Pl
set_option linter.unusedVariables false
namespace Go.Proofs.YtgaaogijfikfeaaDoor.Pl
def dots (s : ByteArray) : List ByteArray := Fn.cuts (Fn.findOne 46) 1 s
def dotted (s : ByteArray) : Bool := (dots s).all isAtom
end Go.Proofs.YtgaaogijfikfeaaDoor.Pl
namespace Go.Proofs.YtgaaogijfikfeaaDoor.Fn
open Go.RowKit Go.Shelf Go.Proofs.YtgaaogijfikfeaaDoorW.PrintWords

def addr_Dotted.f (a0 : ByteArray) : Option Bool := if a0.size ≤ 140737488355328 then some (Pl.dotted a0) else none

attribute [local go_sem] Oper.semAt_some

end Go.Proofs.YtgaaogijfikfeaaDoor.Fn
set_option linter.unusedVariables false
namespace Go.Proofs.YtgaaogijfikfeaaDoor.Pl
def domLong (s : ByteArray) (l : List ByteArray) : Bool := decide (253 < (s.size : Int)) || l.any (fun x => decide (63 < (x.size : Int)))
def domain (s : ByteArray) : Int := if (dots s).all label = true then (if domLong s (dots s) = true then 2 else 0) else 130
end Go.Proofs.YtgaaogijfikfeaaDoor.Pl
namespace Go.Proofs.YtgaaogijfikfeaaDoor.Fn
open Go.RowKit Go.Shelf Go.Proofs.YtgaaogijfikfeaaDoorW.PrintWords

def addr_domain.f (a0 : ByteArray) : Option Int := if a0.size ≤ 140737488355328 then some (Pl.domain a0) else none

attribute [local go_sem] Oper.semAt_some

end Go.Proofs.YtgaaogijfikfeaaDoor.Fn
namespace Go.Proofs.YtgaaogijfikfeaaDoor.Fn
open Go.RowKit Go.Proofs.YtgaaogijfikfeaaDoorW.PrintWords Go.Proofs.YtgaaogijfikfeaaDoorW.PrintLast Go.Proofs.YtgaaogijfikfeaaDoorW.PrintMore
attribute [local go_sem] max2_int min2_int max_two min_two max_three min_three max_four min_four
set_option linter.unusedVariables false
set_option linter.unusedSimpArgs false

/-! ### glyph_plain: function 179 -/
end Go.Proofs.YtgaaogijfikfeaaDoor.Fn
set_option linter.unusedVariables false
namespace Go.Proofs.YtgaaogijfikfeaaDoor.Pl
def plainR (r : Nat) : Bool := decide (32 ≤ r) && decide (r ≤ 126)
def plainFrom (s : ByteArray) : Nat → Nat → Bool
  | 0, _ => true
  | f + 1, pos => if pos < s.size then (if plainR (Utf8.decode s pos).1 = true then plainFrom s f (pos + (Utf8.decode s pos).2) else false) else true
def plain (s : ByteArray) : Bool := plainFrom s s.size 0
end Go.Proofs.YtgaaogijfikfeaaDoor.Pl
namespace Go.Proofs.YtgaaogijfikfeaaDoor.Fn
open Go.RowKit Go.Proofs.YtgaaogijfikfeaaDoorW.PrintWords

def glyph_Plain.f (a0 : ByteArray) : Option Bool := if a0.size ≤ 35184372088832 then some (Pl.plain a0) else none
end Go.Proofs.YtgaaogijfikfeaaDoor.Fn
namespace Go.Proofs.YtgaaogijfikfeaaDoor.Fn
open Go.RowKit Go.Proofs.YtgaaogijfikfeaaDoorW.PrintWords Go.Proofs.YtgaaogijfikfeaaDoorW.PrintLast Go.Proofs.YtgaaogijfikfeaaDoorW.PrintMore
attribute [local go_sem] max2_int min2_int max_two min_two max_three min_three max_four min_four
set_option linter.unusedVariables false
set_option linter.unusedSimpArgs false

/-! ### addr_Addr_Text: function 82 -/
def addr_Addr_Text.f (k : Nat) (a0_0 : ByteArray) (a0_1 : ByteArray) : Option (ByteArray) := (addr_Dotted.f a0_0).bind fun t130 => (if t130 = true then (if a0_0.size + 1 ≤ 9223372036854775807 then (if (a0_0 ++ (⟨#[64]⟩ : ByteArray)).size + a0_1.size ≤ 9223372036854775807 then (some ((a0_0 ++ (⟨#[64]⟩ : ByteArray)) ++ a0_1)) else (none)) else (none)) else ((lex_Quote.f k a0_0).bind fun t131 => (if t131.size + 1 ≤ 9223372036854775807 then (if (t131 ++ (⟨#[64]⟩ : ByteArray)).size + a0_1.size ≤ 9223372036854775807 then (some ((t131 ++ (⟨#[64]⟩ : ByteArray)) ++ a0_1)) else (none)) else (none))))
end Go.Proofs.YtgaaogijfikfeaaDoor.Fn
namespace Go.Proofs.YtgaaogijfikfeaaDoor.Fn
open Go.RowKit Go.Proofs.YtgaaogijfikfeaaDoorW.PrintWords Go.Proofs.YtgaaogijfikfeaaDoorW.PrintLast Go.Proofs.YtgaaogijfikfeaaDoorW.PrintMore
attribute [local go_sem] max2_int min2_int max_two min_two max_three min_three max_four min_four
set_option linter.unusedVariables false
set_option linter.unusedSimpArgs false

/-! ### addr_Addr_Key: function 147 -/
end Go.Proofs.YtgaaogijfikfeaaDoor.Fn
-- written by xprint.py of this session over the kit's printer; not trusted: Lean checks it
namespace Go.Proofs.YtgaaogijfikfeaaDoor.Fn
open Go.RowKit Go.Proofs.YtgaaogijfikfeaaDoorW.PrintWords Go.Proofs.YtgaaogijfikfeaaDoorW.PrintLast Go.Proofs.YtgaaogijfikfeaaDoorW.PrintMore
attribute [local go_sem] max2_int min2_int max_two min_two max_three min_three max_four min_four   -- for this text's walks alone
set_option linter.unusedVariables false
set_option linter.unusedSimpArgs false

theorem eqA51 (d : Nat) (w : World) (x0 y0 : ByteArray) (x1 y1 : ByteArray) :
    (Op.equalIn (d + 2) 51 (.agg #[.string x0, .string x1]) (.agg #[.string y0, .string y1])).run Tryd.prog w = .ok (x0.toList == y0.toList && (x1.toList == y1.toList)) w := by
  refine eqA_of Tryd.underlying51 (by kernel_rfl) ?_
  refine eqf_cons (by rfl) (by go_simp; rfl) (by go_simp; rfl) (by go_simp) ?_
  exact eqf_last (by rfl) (by go_simp; rfl) (by go_simp; rfl) (by go_simp)
end Go.Proofs.YtgaaogijfikfeaaDoor.Fn
namespace Go.Proofs.YtgaaogijfikfeaaDoor.Fn
open Go.RowKit Go.Proofs.YtgaaogijfikfeaaDoorW.PrintWords Go.Proofs.YtgaaogijfikfeaaDoorW.PrintLast Go.Proofs.YtgaaogijfikfeaaDoorW.PrintMore
attribute [local go_sem] max2_int min2_int max_two min_two max_three min_three max_four min_four
set_option linter.unusedVariables false
set_option linter.unusedSimpArgs false

/-! ### addr_why: function 98 -/
def addr_why.j0 : Nat → Int → Bool → ByteArray → ByteArray → Option (Int)
 | 0, _, _, _, _ => none
 | k + 1, x3, x19, x179000, x179001 => if x19 = true then (some 130) else (if x3 = 0 then (if (x179000.size : Int) > 64 then (some 2) else ((addr_Addr_Text.f k x179000 x179001).bind fun t181 => (if (t181.size : Int) > 254 then (some 2) else (some 0)))) else (some 2))
def addr_why.f (k : Nat) (a0_0 : ByteArray) (a0_1 : ByteArray) : Option (Int) := (addr_domain.f a0_1).bind fun t179 => (if t179 = 130 then (addr_why.j0 k t179 true a0_0 a0_1) else (if a0_0.toList = ([] : List UInt8) then (addr_why.j0 k t179 true a0_0 a0_1) else ((glyph_Plain.f a0_0).bind fun t180 => (addr_why.j0 k t179 (!t180) a0_0 a0_1))))
end Go.Proofs.YtgaaogijfikfeaaDoor.Fn
namespace Go.Proofs.YtgaaogijfikfeaaDoor.Fn
open Go.RowKit Go.Proofs.YtgaaogijfikfeaaDoorW.PrintWords Go.Proofs.YtgaaogijfikfeaaDoorW.PrintLast Go.Proofs.YtgaaogijfikfeaaDoorW.PrintMore
attribute [local go_sem] max2_int min2_int max_two min_two max_three min_three max_four min_four
set_option linter.unusedVariables false
set_option linter.unusedSimpArgs false

attribute [local go_sem high] eqA51
/-! ### addr_Addr_Right: function 48 -/
end Go.Proofs.YtgaaogijfikfeaaDoor.Fn
set_option linter.unusedVariables false
namespace Go.Proofs.YtgaaogijfikfeaaDoor.Pl
open Go.RowKit Go.Proofs.YtgaaogijfikfeaaDoorW.PrintWords Go.Proofs.YtgaaogijfikfeaaDoor.Fn

/-! Layer 13, the program's, over lists of bytes. -/
theorem mono_up {α : Type} {f : Nat → Option α} (h : ∀ k, LeO (f k) (f (k + 1))) {r : α} {k : Nat} (hr : f k = some r) : ∀ (k' : Nat), k ≤ k' → f k' = some r := by
  intro k' hk
  obtain ⟨d, rfl⟩ : ∃ d, k' = k + d := ⟨k' - k, by omega⟩
  clear hk
  induction d with
  | zero => exact hr
  | succ d ih => exact h (k + d) r ih

def splitL (c : UInt8) : Bytes → List Bytes
  | [] => [[]]
  | x :: l => if x = c then [] :: splitL c l else match splitL c l with
    | [] => [[x]]
    | w :: r => (x :: w) :: r
theorem splitL_ne (c : UInt8) (l : Bytes) : splitL c l ≠ [] := by
  cases l with
  | nil => simp [splitL]
  | cons x l =>
    rw [splitL]
    split
    · simp
    · split <;> simp
theorem indexByte_neg (c : UInt8) : ∀ l : Bytes, Lib.indexByte l c < 0 → splitL c l = [l]
  | [], _ => rfl
  | b :: l, h => by
    rw [Lib.indexByte] at h
    have hb : ¬ (b == c) = true := fun q => by rw [if_pos q] at h; omega
    rw [if_neg hb] at h
    by_cases h2 : (Lib.indexByte l c == -1) = true
    · have h3 : Lib.indexByte l c = -1 := by simpa using h2
      rw [splitL, if_neg (by simpa using hb), indexByte_neg c l (by omega)]
    · rw [if_neg h2] at h
      have := Lib.indexByte_ge l c
      have h4 : Lib.indexByte l c ≠ -1 := by simpa using h2
      omega
theorem indexByte_nat (c : UInt8) : ∀ (l : Bytes) (n : Nat), Lib.indexByte l c = n → splitL c l = l.take n :: splitL c (l.drop (n + 1))
  | [], n, h => by simp [Lib.indexByte] at h
  | b :: l, n, h => by
    rw [Lib.indexByte] at h
    by_cases hb : (b == c) = true
    · rw [if_pos hb] at h
      obtain rfl : n = 0 := by omega
      rw [splitL, if_pos (by simpa using hb)]
      simp
    · rw [if_neg hb] at h
      by_cases h2 : (Lib.indexByte l c == -1) = true
      · rw [if_pos h2] at h; omega
      · rw [if_neg h2] at h
        have h3 := Lib.indexByte_ge l c
        have h4 : Lib.indexByte l c ≠ -1 := by simpa using h2
        obtain ⟨m, rfl⟩ : ∃ m, n = m + 1 := ⟨n - 1, by omega⟩
        have ih := indexByte_nat c l m (by omega)
        rw [splitL, if_neg (by simpa using hb), ih]
        simp
def atomL (w : Bytes) : Bool := w.all atomic && !w.isEmpty
def dottedL (l : Bytes) : Bool := (splitL 46 l).all atomL
/-! Quote -/
def text (c : UInt8) : Bool := (lex_text.f (c.toNat : Int)).getD false
theorem text_is (c : UInt8) : lex_text.f (c.toNat : Int) = some (text c) := by
  have : ∀ x : Int, (lex_text.f x).isSome := by
    intro x
    unfold lex_text.f
    repeat' split
    all_goals rfl
  unfold text
  have h := this (c.toNat : Int)
  cases hx : lex_text.f (c.toNat : Int) with
  | none => rw [hx] at h; cases h
  | some b => rfl
def qB (c : UInt8) : Bytes := if c = 34 ∨ c = 92 then [92, c] else if text c = true then [c] else [32]
def quote (l : Bytes) : Bytes := 34 :: (l.flatMap qB ++ [34])
def numsOf (l : Bytes) : List Int := l.map fun c => (c.toNat : Int)
theorem strOfNums_of (l : Bytes) : strOfNums (numsOf l) = str l := by
  unfold strOfNums numsOf str
  congr 2
  rw [List.map_map]
  conv => rhs; rw [← List.map_id l]
  apply List.map_congr_left
  intro c _
  simp
theorem numsOf_app (a b : Bytes) : numsOf (a ++ b) = numsOf a ++ numsOf b := by simp [numsOf]
theorem numsOf_length (a : Bytes) : (numsOf a).length = a.length := by simp [numsOf]
theorem byte_eq (c : UInt8) (n : Nat) (h : n < 256) : ((c.toNat : Int) = (n : Int)) = (c = UInt8.ofNat n) := by
  apply propext
  constructor
  · intro q
    apply UInt8.toNat_inj.1
    simp
    omega
  · intro q
    rw [q]
    simp
    omega
theorem lexQuote_l0 (s : ByteArray) (hs : s.size ≤ 1000000000) : ∀ (rest : Bytes) (i k : Nat) (acc : Bytes), (bs s).drop i = rest → i ≤ (bs s).length → 2 * rest.length + 1 ≤ k → acc.length ≤ 2 * i + 1 →
    lex_Quote.l0 k s (numsOf acc) (s.size : Int) (i : Int) = some (str (acc ++ rest.flatMap qB ++ [34]))
  | [], i, k, acc, hd, hi, hk, ha => by
    obtain ⟨k, rfl⟩ : ∃ j, k = j + 1 := ⟨k - 1, by omega⟩
    have := drop_nil hd
    rw [bs_length] at this hi
    rw [lex_Quote.l0, if_neg (by omega), if_pos (by rw [numsOf_length]; omega)]
    rw [show numsOf acc ++ [34] = numsOf (acc ++ [34]) by rw [numsOf_app]; rfl, strOfNums_of]
    simp
  | c :: rest, i, k, acc, hd, hi, hk, ha => by
    obtain ⟨k, rfl⟩ : ∃ j, k = j + 1 + 1 := ⟨k - 2, by simp at hk; omega⟩
    obtain ⟨h1, h2, h3, h4⟩ := drop_cons hd
    have h5 : i < s.size := by rw [bs_length] at h1; exact h1
    simp only [List.length_cons] at hk
    have e34 : ((c.toNat : Int) = 34) = (c = 34) := byte_eq c 34 (by decide)
    have e92 : ((c.toNat : Int) = 92) = (c = 92) := byte_eq c 92 (by decide)
    have goon : ∀ acc' : Bytes, acc'.length ≤ acc.length + 2 → lex_Quote.l0 k s (numsOf acc') (s.size : Int) (wrap64 ((i : Int) + 1)) = some (str (acc' ++ rest.flatMap qB ++ [34])) := by
      intro acc' hl
      rw [wrap_succ i (by omega)]
      exact lexQuote_l0 s hs rest (i + 1) k acc' h3 (by omega) (by omega) (by omega)
    have hl1 : (numsOf acc).length < 140737488355328 := by rw [numsOf_length]; omega
    have esc : c = 34 ∨ c = 92 → lex_Quote.j1 (k + 1) s (numsOf acc) (c.toNat : Int) (s.size : Int) (i : Int) true = some (str (acc ++ (c :: rest).flatMap qB ++ [34])) := by
      intro hc
      rw [lex_Quote.j1, if_pos rfl, if_pos hl1]
      simp only [Option.bind_some]
      rw [if_pos (by rw [List.length_append, numsOf_length]; simp; omega)]
      rw [show numsOf acc ++ [92] ++ [(c.toNat : Int)] = numsOf (acc ++ [92, c]) by simp [numsOf], goon _ (by simp)]
      simp [qB, hc]
    rw [lex_Quote.l0, if_pos (by omega), if_pos (by omega), if_pos (by omega), bt_drop hd]
    by_cases c34 : c = 34
    · rw [if_pos (by rw [e34]; exact c34), esc (.inl c34)]
    · rw [if_neg (by rw [e34]; exact c34)]
      by_cases c92 : c = 92
      · rw [show ((c.toNat : Int) == 92) = true by rw [beq_iff_eq, e92]; exact c92, esc (.inr c92)]
      · rw [show ((c.toNat : Int) == 92) = false by rw [beq_eq_false_iff_ne, ne_eq, e92]; exact c92, lex_Quote.j1, if_neg (by decide), text_is]
        simp only [Option.bind_some]
        have hn : ¬ (c = 34 ∨ c = 92) := fun h => h.elim c34 c92
        cases ht : text c with
        | true =>
          rw [if_pos rfl, if_pos hl1, show numsOf acc ++ [(c.toNat : Int)] = numsOf (acc ++ [c]) by simp [numsOf], goon _ (by simp)]
          simp [qB, hn, ht]
        | false =>
          rw [if_neg (by decide), if_pos hl1, show numsOf acc ++ [32] = numsOf (acc ++ [32]) by simp [numsOf], goon _ (by simp)]
          simp [qB, hn, ht]
theorem lexQuote_is (s : ByteArray) (hs : s.size ≤ 1000000000) (k : Nat) (hk : 2 * s.size + 1 ≤ k) : lex_Quote.f k s = some (str (quote (bs s))) := by
  have := lexQuote_l0 s hs (bs s) 0 k [34] (by simp) (by omega) (by rw [bs_length]; omega) (by simp)
  unfold lex_Quote.f quote
  exact this
theorem quote_length (l : Bytes) : (quote l).length ≤ 2 * l.length + 2 := by
  have h : (l.flatMap qB).length ≤ 2 * l.length := by
    induction l with
    | nil => simp
    | cons c l ih =>
      have : (qB c).length ≤ 2 := by unfold qB; repeat' split
                                     all_goals simp
      simp only [List.flatMap_cons, List.length_append, List.length_cons]
      omega
  unfold quote
  simp only [List.length_cons, List.length_append, List.length_nil]
  omega

/-! Text, Key, why, Right -/
def localL (a : Bytes) : Bytes := if dottedL a = true then a else quote a
def textL (a b : Bytes) : Bytes := localL a ++ 64 :: b
def why (a b : ByteArray) : Int :=
  if domain b = 130 ∨ bs a = [] ∨ plain a = false then 130
  else if domain b ≠ 0 ∨ 64 < a.size ∨ 254 < (textL (bs a) (bs b)).length then 2 else 0
def right (a b : ByteArray) : Bool := decide (why a b = 0) && (bs b == fold (bs b))
end Go.Proofs.YtgaaogijfikfeaaDoor.Pl
set_option linter.unusedVariables false
namespace Go.Proofs.YtgaaogijfikfeaaDoor.Pl
open Go.RowKit Go.Proofs.YtgaaogijfikfeaaDoorW.PrintWords Go.Proofs.YtgaaogijfikfeaaDoor.Fn

/-! Capital letters, dots, quotes and the sign @. -/
theorem forall_byte {p : UInt8 → Prop} [DecidablePred p] (h : ∀ i : Fin 256, p (UInt8.ofNat i.val)) (c : UInt8) : p c := by
  have := h ⟨c.toNat, c.toNat_lt⟩
  simpa using this
set_option maxRecDepth 100000 in
theorem atomic_fold (c : UInt8) : atomic (foldB c) = atomic c := forall_byte (p := fun c => atomic (foldB c) = atomic c) (by decide +kernel) c
set_option maxRecDepth 100000 in
theorem foldB_idem (c : UInt8) : foldB (foldB c) = foldB c := forall_byte (p := fun c => foldB (foldB c) = foldB c) (by decide +kernel) c
theorem fold_idem (l : Bytes) : fold (fold l) = fold l := by
  unfold fold
  rw [List.map_map]
  apply List.map_congr_left
  intro c _
  exact foldB_idem c
theorem fold_app (a b : Bytes) : fold (a ++ b) = fold a ++ fold b := by simp [fold]
theorem fold_cons (a : UInt8) (b : Bytes) : fold (a :: b) = foldB a :: fold b := rfl
theorem atomL_fold (w : Bytes) : atomL (fold w) = atomL w := by
  unfold atomL fold
  rw [List.all_map, show (atomic ∘ foldB) = atomic from funext atomic_fold]
  congr 1
  cases w <;> rfl
theorem glyphFold_is (s : ByteArray) (h : s.size ≤ 1000000000) : glyph_Fold.f s = some (str (fold (bs s))) := by
  unfold glyph_Fold.f
  rw [if_pos (by omega)]
  rfl

/-! plain: of all bytes -/
end Go.Proofs.YtgaaogijfikfeaaDoor.Pl
namespace Go.Proofs.YtgaaogijfikfeaaDoor.Fn
open Go.RowKit Go.Proofs.YtgaaogijfikfeaaDoorW.PrintWords Go.Proofs.YtgaaogijfikfeaaDoorW.PrintLast Go.Proofs.YtgaaogijfikfeaaDoorW.PrintMore
attribute [local go_sem] max2_int min2_int max_two min_two max_three min_three max_four min_four
set_option linter.unusedVariables false
set_option linter.unusedSimpArgs false

/-! ### bulletinref13_label: function 204 -/
mutual
def bulletinref13_label.l0 : Nat → ByteArray → Int → Option (Bool)
 | 0, _, _ => none
 | k + 1, x0, x3 => if x3 < (x0.size : Int) then (if 0 ≤ x3 then (if (bt x0 x3) ≥ 65 then (bulletinref13_label.j1 k x0 x3 (bt x0 x3) (decide ((bt x0 x3) ≤ 90))) else (bulletinref13_label.j1 k x0 x3 (bt x0 x3) false)) else (none)) else (some (x0.toList != ([] : List UInt8)))
def bulletinref13_label.j1 : Nat → ByteArray → Int → Int → Bool → Option (Bool)
 | 0, _, _, _, _ => none
 | k + 1, x0, x3, x4, x20 => if x20 = true then (if x3 = 0 then (if ((x4 + 32) % 256) ≥ 97 then (if ((x4 + 32) % 256) ≤ 122 then (bulletinref13_label.l0 k x0 (wrap64 (x3 + 1))) else (if ((x4 + 32) % 256) ≥ 48 then (if ((x4 + 32) % 256) ≤ 57 then (bulletinref13_label.l0 k x0 (wrap64 (x3 + 1))) else (if ((x4 + 32) % 256) = 45 then (some false) else (some false))) else (if ((x4 + 32) % 256) = 45 then (some false) else (some false)))) else (if ((x4 + 32) % 256) ≥ 48 then (if ((x4 + 32) % 256) ≤ 57 then (bulletinref13_label.l0 k x0 (wrap64 (x3 + 1))) else (if ((x4 + 32) % 256) = 45 then (some false) else (some false))) else (if ((x4 + 32) % 256) = 45 then (some false) else (some false)))) else (if ((x4 + 32) % 256) ≥ 97 then (if ((x4 + 32) % 256) ≤ 122 then (bulletinref13_label.l0 k x0 (wrap64 (x3 + 1))) else (if ((x4 + 32) % 256) ≥ 48 then (if ((x4 + 32) % 256) ≤ 57 then (bulletinref13_label.l0 k x0 (wrap64 (x3 + 1))) else (if ((x4 + 32) % 256) = 45 then (if x3 = (wrap64 ((x0.size : Int) - 1)) then (some false) else (bulletinref13_label.l0 k x0 (wrap64 (x3 + 1)))) else (some false))) else (if ((x4 + 32) % 256) = 45 then (if x3 = (wrap64 ((x0.size : Int) - 1)) then (some false) else (bulletinref13_label.l0 k x0 (wrap64 (x3 + 1)))) else (some false)))) else (if ((x4 + 32) % 256) ≥ 48 then (if ((x4 + 32) % 256) ≤ 57 then (bulletinref13_label.l0 k x0 (wrap64 (x3 + 1))) else (if ((x4 + 32) % 256) = 45 then (if x3 = (wrap64 ((x0.size : Int) - 1)) then (some false) else (bulletinref13_label.l0 k x0 (wrap64 (x3 + 1)))) else (some false))) else (if ((x4 + 32) % 256) = 45 then (if x3 = (wrap64 ((x0.size : Int) - 1)) then (some false) else (bulletinref13_label.l0 k x0 (wrap64 (x3 + 1)))) else (some false))))) else (if x3 = 0 then (if x4 ≥ 97 then (if x4 ≤ 122 then (bulletinref13_label.l0 k x0 (wrap64 (x3 + 1))) else (if x4 ≥ 48 then (if x4 ≤ 57 then (bulletinref13_label.l0 k x0 (wrap64 (x3 + 1))) else (if x4 = 45 then (some false) else (some false))) else (if x4 = 45 then (some false) else (some false)))) else (if x4 ≥ 48 then (if x4 ≤ 57 then (bulletinref13_label.l0 k x0 (wrap64 (x3 + 1))) else (if x4 = 45 then (some false) else (some false))) else (if x4 = 45 then (some false) else (some false)))) else (if x4 ≥ 97 then (if x4 ≤ 122 then (bulletinref13_label.l0 k x0 (wrap64 (x3 + 1))) else (if x4 ≥ 48 then (if x4 ≤ 57 then (bulletinref13_label.l0 k x0 (wrap64 (x3 + 1))) else (if x4 = 45 then (if x3 = (wrap64 ((x0.size : Int) - 1)) then (some false) else (bulletinref13_label.l0 k x0 (wrap64 (x3 + 1)))) else (some false))) else (if x4 = 45 then (if x3 = (wrap64 ((x0.size : Int) - 1)) then (some false) else (bulletinref13_label.l0 k x0 (wrap64 (x3 + 1)))) else (some false)))) else (if x4 ≥ 48 then (if x4 ≤ 57 then (bulletinref13_label.l0 k x0 (wrap64 (x3 + 1))) else (if x4 = 45 then (if x3 = (wrap64 ((x0.size : Int) - 1)) then (some false) else (bulletinref13_label.l0 k x0 (wrap64 (x3 + 1)))) else (some false))) else (if x4 = 45 then (if x3 = (wrap64 ((x0.size : Int) - 1)) then (some false) else (bulletinref13_label.l0 k x0 (wrap64 (x3 + 1)))) else (some false)))))
end
def bulletinref13_label.f (k : Nat) (a0 : ByteArray) : Option (Bool) := bulletinref13_label.l0 k a0 0
end Go.Proofs.YtgaaogijfikfeaaDoor.Fn
namespace Go.Proofs.YtgaaogijfikfeaaDoor.Fn
open Go.RowKit Go.Proofs.YtgaaogijfikfeaaDoorW.PrintWords Go.Proofs.YtgaaogijfikfeaaDoorW.PrintLast Go.Proofs.YtgaaogijfikfeaaDoorW.PrintMore
attribute [local go_sem] max2_int min2_int max_two min_two max_three min_three max_four min_four
set_option linter.unusedVariables false
set_option linter.unusedSimpArgs false

/-! ### bulletinref13_Domain: function 178 -/
def bulletinref13_Domain.l0 : Nat → ByteArray → List ByteArray → Bool → Int → Option (ByteArray × Int)
 | 0, _, _, _, _ => none
 | k + 1, x0, x4, x5, x6 => if x6 < (x4.length : Int) then (if 0 ≤ x6 then ((bulletinref13_label.f k (rdOf ByteArray.empty x4 x6)).bind fun t620 => (if t620 = true then (if ((rdOf ByteArray.empty x4 x6).size : Int) > 63 then (bulletinref13_Domain.l0 k x0 x4 true (wrap64 (x6 + 1))) else (bulletinref13_Domain.l0 k x0 x4 x5 (wrap64 (x6 + 1)))) else (some ((⟨#[]⟩ : ByteArray), 130)))) else (none)) else (if x5 = true then (some ((⟨#[]⟩ : ByteArray), 2)) else ((bulletinref06_Fold.f k x0).bind fun t618 => (some (t618, 0))))
def bulletinref13_Domain.f (k : Nat) (a0 : ByteArray) : Option (ByteArray × Int) := (bulletinref13_Split.f k a0 46).bind fun t615 => (bulletinref13_Domain.l0 k a0 t615 (decide ((a0.size : Int) > 253)) 0)
end Go.Proofs.YtgaaogijfikfeaaDoor.Fn
namespace Go.Proofs.YtgaaogijfikfeaaDoor.Fn
open Go.RowKit Go.Proofs.YtgaaogijfikfeaaDoorW.PrintWords Go.Proofs.YtgaaogijfikfeaaDoorW.PrintLast Go.Proofs.YtgaaogijfikfeaaDoorW.PrintMore
attribute [local go_sem] max2_int min2_int max_two min_two max_three min_three max_four min_four
set_option linter.unusedVariables false
set_option linter.unusedSimpArgs false

/-! ### bulletinref12_Quote: function 89 -/
mutual
def bulletinref12_Quote.l0 : Nat → ByteArray → ByteArray → Int → Option (ByteArray)
 | 0, _, _, _ => none
 | k + 1, x0, x3, x4 => if x4 < (x0.size : Int) then (if 0 ≤ x4 then (if x4 ≤ (wrap64 (x4 + 1)) then (if (wrap64 (x4 + 1)) ≤ (x0.size : Int) then (if (bt x0 x4) = 34 then (bulletinref12_Quote.j1 k x0 x3 x4 (x0.extract (x4 : Int).toNat ((wrap64 (x4 + 1)) : Int).toNat) true) else (bulletinref12_Quote.j1 k x0 x3 x4 (x0.extract (x4 : Int).toNat ((wrap64 (x4 + 1)) : Int).toNat) ((bt x0 x4) == 92))) else (none)) else (none)) else (none)) else (if 1 + x3.size ≤ 9223372036854775807 then (if ((⟨#[34]⟩ : ByteArray) ++ x3).size + 1 ≤ 9223372036854775807 then (some (((⟨#[34]⟩ : ByteArray) ++ x3) ++ (⟨#[34]⟩ : ByteArray))) else (none)) else (none))
def bulletinref12_Quote.j1 : Nat → ByteArray → ByteArray → Int → ByteArray → Bool → Option (ByteArray)
 | 0, _, _, _, _, _ => none
 | k + 1, x0, x3, x4, x5, x26 => if x26 = true then (if 1 + x5.size ≤ 9223372036854775807 then (if 0 ≤ x4 then (if x4 < (x0.size : Int) then ((bulletinref12_Text.f (bt x0 x4)).bind fun t291 => (if t291 = true then (if x3.size + ((⟨#[92]⟩ : ByteArray) ++ x5).size ≤ 9223372036854775807 then (bulletinref12_Quote.l0 k x0 (x3 ++ ((⟨#[92]⟩ : ByteArray) ++ x5)) (wrap64 (x4 + 1))) else (none)) else (if x3.size + 1 ≤ 9223372036854775807 then (bulletinref12_Quote.l0 k x0 (x3 ++ (⟨#[32]⟩ : ByteArray)) (wrap64 (x4 + 1))) else (none)))) else (none)) else (none)) else (none)) else (if 0 ≤ x4 then (if x4 < (x0.size : Int) then ((bulletinref12_Text.f (bt x0 x4)).bind fun t292 => (if t292 = true then (if x3.size + x5.size ≤ 9223372036854775807 then (bulletinref12_Quote.l0 k x0 (x3 ++ x5) (wrap64 (x4 + 1))) else (none)) else (if x3.size + 1 ≤ 9223372036854775807 then (bulletinref12_Quote.l0 k x0 (x3 ++ (⟨#[32]⟩ : ByteArray)) (wrap64 (x4 + 1))) else (none)))) else (none)) else (none))
end
def bulletinref12_Quote.f (k : Nat) (a0 : ByteArray) : Option (ByteArray) := bulletinref12_Quote.l0 k a0 (⟨#[]⟩ : ByteArray) 0
end Go.Proofs.YtgaaogijfikfeaaDoor.Fn
namespace Go.Proofs.YtgaaogijfikfeaaDoor.Fn
open Go.RowKit Go.Proofs.YtgaaogijfikfeaaDoorW.PrintWords Go.Proofs.YtgaaogijfikfeaaDoorW.PrintLast Go.Proofs.YtgaaogijfikfeaaDoorW.PrintMore
attribute [local go_sem] max2_int min2_int max_two min_two max_three min_three max_four min_four
set_option linter.unusedVariables false
set_option linter.unusedSimpArgs false

/-! ### bulletinref13_Dotted: function 93 -/
def bulletinref13_Dotted.l0 : Nat → List ByteArray → Int → Option (Bool)
 | 0, _, _ => none
 | k + 1, x3, x4 => if x4 < (x3.length : Int) then (if 0 ≤ x4 then ((bulletinref12_IsAtom.f k (rdOf ByteArray.empty x3 x4)).bind fun t305 => (if t305 = true then (bulletinref13_Dotted.l0 k x3 (wrap64 (x4 + 1))) else (some false))) else (none)) else (some true)
def bulletinref13_Dotted.f (k : Nat) (a0 : ByteArray) : Option (Bool) := (bulletinref13_Split.f k a0 46).bind fun t301 => (bulletinref13_Dotted.l0 k t301 0)
end Go.Proofs.YtgaaogijfikfeaaDoor.Fn
namespace Go.Proofs.YtgaaogijfikfeaaDoor.Fn
open Go.RowKit Go.Proofs.YtgaaogijfikfeaaDoorW.PrintWords Go.Proofs.YtgaaogijfikfeaaDoorW.PrintLast Go.Proofs.YtgaaogijfikfeaaDoorW.PrintMore
attribute [local go_sem] max2_int min2_int max_two min_two max_three min_three max_four min_four
set_option linter.unusedVariables false
set_option linter.unusedSimpArgs false

/-! ### bulletinref13_Text: function 44 -/
def bulletinref13_Text.f (k : Nat) (a0_0 : ByteArray) (a0_1 : ByteArray) : Option (ByteArray) := (bulletinref13_Dotted.f k a0_0).bind fun t307 => (if t307 = true then (if a0_0.size + 1 ≤ 9223372036854775807 then (if (a0_0 ++ (⟨#[64]⟩ : ByteArray)).size + a0_1.size ≤ 9223372036854775807 then (some ((a0_0 ++ (⟨#[64]⟩ : ByteArray)) ++ a0_1)) else (none)) else (none)) else ((bulletinref12_Quote.f k a0_0).bind fun t308 => (if t308.size + 1 ≤ 9223372036854775807 then (if (t308 ++ (⟨#[64]⟩ : ByteArray)).size + a0_1.size ≤ 9223372036854775807 then (some ((t308 ++ (⟨#[64]⟩ : ByteArray)) ++ a0_1)) else (none)) else (none))))
end Go.Proofs.YtgaaogijfikfeaaDoor.Fn
namespace Go.Proofs.YtgaaogijfikfeaaDoor.Fn
open Go.RowKit Go.Proofs.YtgaaogijfikfeaaDoorW.PrintWords Go.Proofs.YtgaaogijfikfeaaDoorW.PrintLast Go.Proofs.YtgaaogijfikfeaaDoorW.PrintMore
attribute [local go_sem] max2_int min2_int max_two min_two max_three min_three max_four min_four
set_option linter.unusedVariables false
set_option linter.unusedSimpArgs false

/-! ### bulletinref13_Why: function 140 -/
mutual
def bulletinref13_Why.j0 : Nat → Int → Bool → ByteArray → ByteArray → Option (Int)
 | 0, _, _, _, _ => none
 | k + 1, x4, x18, x623000, x623001 => if x18 = true then (some 130) else (bulletinref13_Why.l0 k x4 0 x623000 x623001)
def bulletinref13_Why.l0 : Nat → Int → Int → ByteArray → ByteArray → Option (Int)
 | 0, _, _, _, _ => none
 | k + 1, x4, x5, x623000, x623001 => if x5 < (x623000.size : Int) then (if 0 ≤ x5 then (if (bt x623000 x5) < 32 then (some 130) else (if (bt x623000 x5) > 126 then (some 130) else (bulletinref13_Why.l0 k x4 (wrap64 (x5 + 1)) x623000 x623001))) else (none)) else (if x4 = 0 then (if (x623000.size : Int) > 64 then (some 2) else ((bulletinref13_Text.f k x623000 x623001).bind fun t625 => (if (t625.size : Int) > 254 then (some 2) else (some 0)))) else (some 2))
end
def bulletinref13_Why.f (k : Nat) (a0_0 : ByteArray) (a0_1 : ByteArray) : Option (Int) := (bulletinref13_Domain.f k a0_1).bind fun bt623 => (if bt623.2 = 130 then (bulletinref13_Why.j0 k bt623.2 true a0_0 a0_1) else (bulletinref13_Why.j0 k bt623.2 (a0_0.toList == ([] : List UInt8)) a0_0 a0_1))
end Go.Proofs.YtgaaogijfikfeaaDoor.Fn
set_option linter.unusedVariables false
namespace Go.Proofs.YtgaaogijfikfeaaDoor.Pl
open Go.RowKit Go.Proofs.YtgaaogijfikfeaaDoorW.PrintWords Go.Proofs.YtgaaogijfikfeaaDoor.Fn

/-! Layer 13, the document's, over lists of bytes: it answers as the program does. -/
theorem rdS_drop {l : List Bytes} {i : Nat} {x : Bytes} {r : List Bytes} (h : l.drop i = x :: r) : rdOf ByteArray.empty (l.map str) (i : Int) = str x := by
  have h1 : l[i]? = some x := by
    have := congrArg List.head? h
    rw [List.head?_drop] at this
    exact this
  unfold rdOf
  rw [List.getD_eq_getElem?_getD, List.getElem?_map]
  simp [h1]
theorem dropS_lt {α : Type} {l : List α} {i : Nat} {x : α} {r : List α} (h : l.drop i = x :: r) : i < l.length ∧ l.drop (i + 1) = r := by
  have h1 : i < l.length := by
    rcases Nat.lt_or_ge i l.length with h' | h'
    · exact h'
    · rw [List.drop_of_length_le h'] at h; cases h
  refine ⟨h1, ?_⟩
  rw [← List.drop_drop, h]
  rfl
def headJoin (w : Bytes) : List Bytes → List Bytes
  | [] => [w]
  | p :: ps => (w ++ p) :: ps
theorem headJoin_nil (l : List Bytes) (h : l ≠ []) : headJoin [] l = l := by
  cases l with
  | nil => exact absurd rfl h
  | cons p ps => rfl
theorem headJoin_step (c x : UInt8) (w rest : Bytes) (hx : ¬ x = c) : headJoin w (splitL c (x :: rest)) = headJoin (w ++ [x]) (splitL c rest) := by
  have h := splitL_ne c rest
  rw [splitL, if_neg hx]
  cases hs : splitL c rest with
  | nil => exact absurd hs h
  | cons p ps => simp [headJoin]
theorem refSplit_l0 (s : ByteArray) (hs : s.size ≤ 1000000000) (c : UInt8) : ∀ (rest : Bytes) (i k : Nat) (acc : List Bytes) (w : Bytes), (bs s).drop i = rest → i ≤ (bs s).length → rest.length + 1 ≤ k → acc.length ≤ i → w.length ≤ i →
    bulletinref13_Split.l0 k s (c.toNat : Int) (acc.map str) (str w) (i : Int) = some ((acc ++ headJoin w (splitL c rest)).map str)
  | [], i, k, acc, w, hd, hi, hk, ha, hw => by
    obtain ⟨k, rfl⟩ : ∃ j, k = j + 1 := ⟨k - 1, by omega⟩
    have := drop_nil hd
    rw [bs_length] at this hi
    rw [bulletinref13_Split.l0, if_neg (by omega), if_pos (by rw [List.length_map]; omega)]
    simp [splitL, headJoin]
  | x :: rest, i, k, acc, w, hd, hi, hk, ha, hw => by
    obtain ⟨k, rfl⟩ : ∃ j, k = j + 1 := ⟨k - 1, by omega⟩
    obtain ⟨h1, h2, h3, h4⟩ := drop_cons hd
    have h5 : i < s.size := by rw [bs_length] at h1; exact h1
    simp only [List.length_cons] at hk
    have e : ((x.toNat : Int) = (c.toNat : Int)) = (x = c) := propext ⟨fun q => UInt8.toNat_inj.1 (by omega), fun q => by rw [q]⟩
    rw [bulletinref13_Split.l0, if_pos (by omega), if_pos (by omega), bt_drop hd]
    by_cases hx : x = c
    · rw [if_pos (by rw [e]; exact hx), if_pos (by rw [List.length_map]; omega), wrap_succ i (by omega)]
      rw [show acc.map str ++ [str w] = (acc ++ [w]).map str by simp, show (⟨#[]⟩ : ByteArray) = str [] from rfl]
      rw [refSplit_l0 s hs c rest (i + 1) k (acc ++ [w]) [] h3 (by omega) (by omega) (by simp; omega) (by simp)]
      rw [headJoin_nil _ (splitL_ne c rest), splitL, if_pos hx]
      simp [headJoin]
    · rw [if_neg (by rw [e]; exact hx), wrap_succ i (by omega), if_pos (by omega), if_pos (by omega)]
      simp only [Int.toNat_natCast]
      rw [extract_one hd, str_app, if_pos (by rw [str_size, str_size]; simp; omega)]
      rw [refSplit_l0 s hs c rest (i + 1) k acc (w ++ [x]) h3 (by omega) (by omega) (by omega) (by simp; omega)]
      rw [headJoin_step c x w rest hx]
theorem splitL_length (c : UInt8) : ∀ l : Bytes, (splitL c l).length ≤ l.length + 1
  | [] => by simp [splitL]
  | x :: l => by
    have ih := splitL_length c l
    have hne := splitL_ne c l
    rw [splitL]
    split
    · simp; omega
    · cases h : splitL c l with
      | nil => exact absurd h hne
      | cons w r => rw [h] at ih; simp at ih ⊢; omega
/-! IsAtom -/
set_option maxRecDepth 100000 in
theorem refatomic_at (c : UInt8) : bulletinref12_atomic.f 20 (c.toNat : Int) = some (atomic c) := forall_byte (p := fun c => bulletinref12_atomic.f 20 (c.toNat : Int) = some (atomic c)) (by decide +kernel) c
theorem refatomic_is (c : UInt8) (k : Nat) (hk : 20 ≤ k) : bulletinref12_atomic.f k (c.toNat : Int) = some (atomic c) := mono_up (fun k => bulletinref12_atomic.mono _ k) (refatomic_at c) k hk
theorem refIsAtom_l0 (s : ByteArray) (hs : s.size ≤ 1000000000) : ∀ (rest : Bytes) (i k : Nat), (bs s).drop i = rest → i ≤ (bs s).length → rest.length + 1 + 20 ≤ k →
    bulletinref12_IsAtom.l0 k s (i : Int) = some (rest.all atomic)
  | [], i, k, hd, hi, hk => by
    obtain ⟨k, rfl⟩ : ∃ j, k = j + 1 := ⟨k - 1, by omega⟩
    have := drop_nil hd
    rw [bs_length] at this hi
    rw [bulletinref12_IsAtom.l0, if_neg (by omega)]
    rfl
  | c :: rest, i, k, hd, hi, hk => by
    obtain ⟨k, rfl⟩ : ∃ j, k = j + 1 := ⟨k - 1, by omega⟩
    obtain ⟨h1, h2, h3, h4⟩ := drop_cons hd
    have h5 : i < s.size := by rw [bs_length] at h1; exact h1
    simp only [List.length_cons] at hk
    rw [bulletinref12_IsAtom.l0, if_pos (by omega), if_pos (by omega), bt_drop hd, refatomic_is c k (by omega), Option.bind_some]
    cases ha : atomic c with
    | true => rw [if_pos rfl, wrap_succ i (by omega), refIsAtom_l0 s hs rest (i + 1) k h3 (by omega) (by omega)]; simp [ha]
    | false => rw [if_neg (by simp)]; simp [ha]
theorem refIsAtom_is (s : ByteArray) (hs : s.size ≤ 1000000000) (k : Nat) (hk : s.size + 1 + 20 ≤ k) : bulletinref12_IsAtom.f k s = some (atomL (bs s)) := by
  unfold bulletinref12_IsAtom.f atomL
  rw [toList_bs]
  cases h : bs s with
  | nil => rw [if_pos rfl]; rfl
  | cons c r =>
    rw [if_neg (by simp)]
    have := refIsAtom_l0 s hs (bs s) 0 k (by simp) (by omega) (by rw [bs_length]; omega)
    rw [h] at this
    rw [show (0 : Int) = ((0 : Nat) : Int) from rfl, this]
    simp
/-! Quote -/
set_option maxRecDepth 100000 in
theorem reftext_is (c : UInt8) : bulletinref12_Text.f (c.toNat : Int) = some (text c) := forall_byte (p := fun c => bulletinref12_Text.f (c.toNat : Int) = some (text c)) (by decide +kernel) c
theorem text_34 : text 34 = true := by decide +kernel
end Go.Proofs.YtgaaogijfikfeaaDoor.Pl
namespace Go.Proofs.YtgaaogijfikfeaaDoor.Fn
open Go.RowKit Go.Proofs.YtgaaogijfikfeaaDoorW.PrintWords Go.Proofs.YtgaaogijfikfeaaDoorW.PrintLast Go.Proofs.YtgaaogijfikfeaaDoorW.PrintMore
attribute [local go_sem] max2_int min2_int max_two min_two max_three min_three max_four min_four
set_option linter.unusedVariables false
set_option linter.unusedSimpArgs false

/-! ### bulletinref12_Scan: function 94 -/
mutual
def bulletinref12_Scan.l0 : Nat → ByteArray → List (S160) → ByteArray → Int → Int → Bool → Int → Option ((List (S160)) × Int)
 | 0, _, _, _, _, _, _, _ => none
 | k + 1, x0, x4, x5, x6, x7, x8, x9 => if x9 < (x0.size : Int) then (if 0 ≤ x9 then (if x8 = true then ((bulletinref12_Text.f (bt x0 x9)).bind fun t573 => (if t573 = true then (if x6 = 2 then (if x9 ≤ (wrap64 (x9 + 1)) then (if (wrap64 (x9 + 1)) ≤ (x0.size : Int) then (if x5.size + (x0.extract (x9 : Int).toNat ((wrap64 (x9 + 1)) : Int).toNat).size ≤ 9223372036854775807 then (bulletinref12_Scan.l0 k x0 x4 (x5 ++ (x0.extract (x9 : Int).toNat ((wrap64 (x9 + 1)) : Int).toNat)) x6 x7 false (wrap64 (x9 + 1))) else (none)) else (none)) else (none)) else (bulletinref12_Scan.l0 k x0 x4 x5 x6 x7 false (wrap64 (x9 + 1)))) else (some (([] : List (S160)), 3)))) else (if x6 = 1 then ((bulletinref12_atomic.f k (bt x0 x9)).bind fun t574 => (bulletinref12_Scan.j1 k x0 x4 x5 x6 x7 x8 x9 (bt x0 x9) (!t574))) else (bulletinref12_Scan.j1 k x0 x4 x5 x6 x7 x8 x9 (bt x0 x9) false))) else (none)) else (if x6 ≥ 2 then (some (([] : List (S160)), 9)) else (if x6 = 1 then (if x4.length < 5864062014805 then (some ((x4 ++ [(⟨1, x5⟩ : S160)]), 0)) else (none)) else (some (x4, 0))))
def bulletinref12_Scan.j1 : Nat → ByteArray → List (S160) → ByteArray → Int → Int → Bool → Int → Int → Bool → Option ((List (S160)) × Int)
 | 0, _, _, _, _, _, _, _, _, _ => none
 | k + 1, x0, x4, x5, x6, x7, x8, x9, x10, x39 => if x39 = true then (if x4.length < 5864062014805 then (bulletinref12_Scan.j2 k x0 (x4 ++ [(⟨1, x5⟩ : S160)]) (⟨#[]⟩ : ByteArray) 0 x7 x8 x9 x10) else (none)) else (bulletinref12_Scan.j2 k x0 x4 x5 x6 x7 x8 x9 x10)
def bulletinref12_Scan.j2 : Nat → ByteArray → List (S160) → ByteArray → Int → Int → Bool → Int → Int → Option ((List (S160)) × Int)
 | 0, _, _, _, _, _, _, _, _ => none
 | k + 1, x0, x4, x5, x6, x7, x8, x9, x10 => if x10 = 13 then (if (wrap64 (x9 + 2)) < (x0.size : Int) then (if 0 ≤ (wrap64 (x9 + 1)) then (if (wrap64 (x9 + 1)) < (x0.size : Int) then (if (bt x0 (wrap64 (x9 + 1))) = 10 then (if 0 ≤ (wrap64 (x9 + 2)) then (if (bt x0 (wrap64 (x9 + 2))) = 32 then (bulletinref12_Scan.j3 k x0 x4 x5 x6 x7 x8 x9 x10 true) else (bulletinref12_Scan.j3 k x0 x4 x5 x6 x7 x8 x9 x10 ((bt x0 (wrap64 (x9 + 2))) == 9))) else (none)) else (bulletinref12_Scan.j3 k x0 x4 x5 x6 x7 x8 x9 x10 false)) else (none)) else (none)) else (bulletinref12_Scan.j3 k x0 x4 x5 x6 x7 x8 x9 x10 false)) else (bulletinref12_Scan.j3 k x0 x4 x5 x6 x7 x8 x9 x10 false)
def bulletinref12_Scan.j3 : Nat → ByteArray → List (S160) → ByteArray → Int → Int → Bool → Int → Int → Bool → Option ((List (S160)) × Int)
 | 0, _, _, _, _, _, _, _, _, _ => none
 | k + 1, x0, x4, x5, x6, x7, x8, x9, x10, x74 => if x74 = true then (bulletinref12_Scan.l0 k x0 x4 x5 x6 x7 x8 (wrap64 ((wrap64 (x9 + 1)) + 1))) else (if x6 = 2 then (bulletinref12_Scan.j4 k x0 x4 x5 x6 x7 x8 x9 x10 true) else (bulletinref12_Scan.j4 k x0 x4 x5 x6 x7 x8 x9 x10 (x6 == 3)))
def bulletinref12_Scan.j4 : Nat → ByteArray → List (S160) → ByteArray → Int → Int → Bool → Int → Int → Bool → Option ((List (S160)) × Int)
 | 0, _, _, _, _, _, _, _, _, _ => none
 | k + 1, x0, x4, x5, x6, x7, x8, x9, x10, x82 => if x82 = true then (if x10 = 92 then (bulletinref12_Scan.l0 k x0 x4 x5 x6 x7 true (wrap64 (x9 + 1))) else ((bulletinref12_Text.f x10).bind fun t578 => (if t578 = true then (bulletinref12_Scan.j5 k x0 x4 x5 x6 x7 x8 x9 x10) else (some (([] : List (S160)), 3))))) else (bulletinref12_Scan.j5 k x0 x4 x5 x6 x7 x8 x9 x10)
def bulletinref12_Scan.j5 : Nat → ByteArray → List (S160) → ByteArray → Int → Int → Bool → Int → Int → Option ((List (S160)) × Int)
 | 0, _, _, _, _, _, _, _, _ => none
 | k + 1, x0, x4, x5, x6, x7, x8, x9, x10 => if x6 = 2 then (if x10 = 34 then (if x4.length < 5864062014805 then (bulletinref12_Scan.l0 k x0 (x4 ++ [(⟨2, x5⟩ : S160)]) (⟨#[]⟩ : ByteArray) 0 x7 x8 (wrap64 (x9 + 1))) else (none)) else (if 0 ≤ x9 then (if x9 ≤ (wrap64 (x9 + 1)) then (if (wrap64 (x9 + 1)) ≤ (x0.size : Int) then (if x5.size + (x0.extract (x9 : Int).toNat ((wrap64 (x9 + 1)) : Int).toNat).size ≤ 9223372036854775807 then (bulletinref12_Scan.l0 k x0 x4 (x5 ++ (x0.extract (x9 : Int).toNat ((wrap64 (x9 + 1)) : Int).toNat)) x6 x7 x8 (wrap64 (x9 + 1))) else (none)) else (none)) else (none)) else (none))) else (if x6 = 3 then (if x10 = 40 then (bulletinref12_Scan.j6 k x0 x4 x5 x6 (wrap64 (x7 + 1)) x8 x9 x10) else (bulletinref12_Scan.j6 k x0 x4 x5 x6 x7 x8 x9 x10)) else ((bulletinref12_atomic.f k x10).bind fun t582 => (if t582 = true then (if 0 ≤ x9 then (if x9 ≤ (wrap64 (x9 + 1)) then (if (wrap64 (x9 + 1)) ≤ (x0.size : Int) then (if x5.size + (x0.extract (x9 : Int).toNat ((wrap64 (x9 + 1)) : Int).toNat).size ≤ 9223372036854775807 then (bulletinref12_Scan.l0 k x0 x4 (x5 ++ (x0.extract (x9 : Int).toNat ((wrap64 (x9 + 1)) : Int).toNat)) 1 x7 x8 (wrap64 (x9 + 1))) else (none)) else (none)) else (none)) else (none)) else (if x10 = 34 then (bulletinref12_Scan.l0 k x0 x4 x5 2 x7 x8 (wrap64 (x9 + 1))) else (if x10 = 40 then (bulletinref12_Scan.l0 k x0 x4 x5 3 1 x8 (wrap64 (x9 + 1))) else ((bulletinref12_among.f k x10 (⟨#[60, 62, 58, 59, 64, 44, 46]⟩ : ByteArray)).bind fun t583 => (if t583 = true then (if 0 ≤ x9 then (if x9 ≤ (wrap64 (x9 + 1)) then (if (wrap64 (x9 + 1)) ≤ (x0.size : Int) then (if x4.length < 5864062014805 then (bulletinref12_Scan.l0 k x0 (x4 ++ [(⟨3, x0.extract (x9 : Int).toNat ((wrap64 (x9 + 1)) : Int).toNat⟩ : S160)]) x5 x6 x7 x8 (wrap64 (x9 + 1))) else (none)) else (none)) else (none)) else (none)) else (if x10 = 32 then (bulletinref12_Scan.l0 k x0 x4 x5 x6 x7 x8 (wrap64 (x9 + 1))) else (if x10 = 9 then (bulletinref12_Scan.l0 k x0 x4 x5 x6 x7 x8 (wrap64 (x9 + 1))) else (some (([] : List (S160)), 3)))))))))))
def bulletinref12_Scan.j6 : Nat → ByteArray → List (S160) → ByteArray → Int → Int → Bool → Int → Int → Option ((List (S160)) × Int)
 | 0, _, _, _, _, _, _, _, _ => none
 | k + 1, x0, x4, x5, x6, x7, x8, x9, x10 => if x10 = 41 then (bulletinref12_Scan.j7 k x0 x4 x5 x6 (wrap64 (x7 - 1)) x8 x9) else (bulletinref12_Scan.j7 k x0 x4 x5 x6 x7 x8 x9)
def bulletinref12_Scan.j7 : Nat → ByteArray → List (S160) → ByteArray → Int → Int → Bool → Int → Option ((List (S160)) × Int)
 | 0, _, _, _, _, _, _, _ => none
 | k + 1, x0, x4, x5, x6, x7, x8, x9 => if x7 > 16 then (some (([] : List (S160)), 1)) else (if x7 = 0 then (bulletinref12_Scan.l0 k x0 x4 x5 0 x7 x8 (wrap64 (x9 + 1))) else (bulletinref12_Scan.l0 k x0 x4 x5 x6 x7 x8 (wrap64 (x9 + 1))))
end
def bulletinref12_Scan.f (k : Nat) (a0 : ByteArray) : Option ((List (S160)) × Int) := bulletinref12_Scan.l0 k a0 ([] : List (S160)) (⟨#[]⟩ : ByteArray) 0 0 false 0
end Go.Proofs.YtgaaogijfikfeaaDoor.Fn
set_option linter.unusedVariables false
namespace Go.Proofs.YtgaaogijfikfeaaDoor.Pl
open Go.RowKit Go.Proofs.YtgaaogijfikfeaaDoorW.PrintWords Go.Proofs.YtgaaogijfikfeaaDoor.Fn

/-! Layer 12: tokens, by one machine over lists of bytes; the document's Scan is this machine. -/
inductive Sc where
  | out
  | atom (w : Bytes)
  | quot (w : Bytes) (b : Bool)
  | comm (d : Nat) (b : Bool)
abbrev Tok := Int × Bytes
def whiteB (c : UInt8) : Bool := c == 32 || c == 9
def foldAt : Bytes → Bool
  | a :: b :: c :: _ => a == 13 && b == 10 && whiteB c
  | _ => false
def signB (c : UInt8) : Bool := (⟨#[60, 62, 58, 59, 64, 44, 46]⟩ : ByteArray).data.toList.contains c
def stepOut (acc : List Tok) (c : UInt8) (l : Bytes) : (List Tok × Sc × Bytes) ⊕ Int :=
  if foldAt (c :: l) = true then .inl (acc, .out, l.tail)
  else if atomic c = true then .inl (acc, .atom [c], l)
  else if c = 34 then .inl (acc, .quot [] false, l)
  else if c = 40 then .inl (acc, .comm 1 false, l)
  else if signB c = true then .inl (acc ++ [(3, [c])], .out, l)
  else if whiteB c = true then .inl (acc, .out, l)
  else .inr 3
def commAfter (acc : List Tok) (d : Nat) (l : Bytes) : (List Tok × Sc × Bytes) ⊕ Int :=
  if 16 < d then .inr 1 else if d = 0 then .inl (acc, .out, l) else .inl (acc, .comm d false, l)
def step (acc : List Tok) (st : Sc) (c : UInt8) (l : Bytes) : (List Tok × Sc × Bytes) ⊕ Int :=
  match st with
  | .out => stepOut acc c l
  | .atom w => if atomic c = true then .inl (acc, .atom (w ++ [c]), l) else stepOut (acc ++ [(1, w)]) c l
  | .quot w true => if text c = true then .inl (acc, .quot (w ++ [c]) false, l) else .inr 3
  | .comm d true => if text c = true then .inl (acc, .comm d false, l) else .inr 3
  | .quot w false =>
    if foldAt (c :: l) = true then .inl (acc, .quot w false, l.tail)
    else if c = 92 then .inl (acc, .quot w true, l)
    else if text c = true then (if c = 34 then .inl (acc ++ [(2, w)], .out, l) else .inl (acc, .quot (w ++ [c]) false, l))
    else .inr 3
  | .comm d false =>
    if foldAt (c :: l) = true then .inl (acc, .comm d false, l.tail)
    else if c = 92 then .inl (acc, .comm d true, l)
    else if text c = true then commAfter acc (if c = 40 then d + 1 else if c = 41 then d - 1 else d) l
    else .inr 3
def endOf (acc : List Tok) : Sc → List Tok × Int
  | .out => (acc, 0)
  | .atom w => (acc ++ [(1, w)], 0)
  | _ => ([], 9)
def scan : Nat → List Tok → Sc → Bytes → List Tok × Int
  | _, acc, st, [] => endOf acc st
  | 0, _, _, _ :: _ => ([], 7)
  | k + 1, acc, st, c :: l => match step acc st c l with
    | .inl (acc', st', l') => scan k acc' st' l'
    | .inr e => ([], e)
theorem stepOut_le {acc : List Tok} {c : UInt8} {l : Bytes} {a : List Tok} {s : Sc} {r : Bytes} (h : stepOut acc c l = .inl (a, s, r)) : r.length ≤ l.length := by
  unfold stepOut at h
  repeat' split at h
  all_goals (first | (cases h; done) | (simp only [Sum.inl.injEq, Prod.mk.injEq] at h; obtain ⟨_, _, rfl⟩ := h; simp))
theorem step_le {acc : List Tok} {st : Sc} {c : UInt8} {l : Bytes} {a : List Tok} {s : Sc} {r : Bytes} (h : step acc st c l = .inl (a, s, r)) : r.length ≤ l.length := by
  unfold step commAfter at h
  repeat' split at h
  all_goals (first | exact stepOut_le h | (cases h; done) | (simp only [Sum.inl.injEq, Prod.mk.injEq] at h; obtain ⟨_, _, rfl⟩ := h; simp))
theorem scan_more : ∀ (k : Nat) (acc : List Tok) (st : Sc) (l : Bytes), l.length ≤ k → scan k acc st l = scan (k + 1) acc st l
  | k, acc, st, [], _ => by cases k <;> rfl
  | 0, acc, st, c :: l, h => by simp at h
  | k + 1, acc, st, c :: l, h => by
    rw [scan, scan]
    cases hs : step acc st c l with
    | inr e => rfl
    | inl x =>
      obtain ⟨a, s, r⟩ := x
      have := step_le hs
      simp only [List.length_cons] at h
      exact scan_more k a s r (by omega)
def scanL (acc : List Tok) (st : Sc) (l : Bytes) : List Tok × Int := scan l.length acc st l
theorem scan_enough (k : Nat) (acc : List Tok) (st : Sc) (l : Bytes) (h : l.length ≤ k) : scan k acc st l = scanL acc st l := by
  unfold scanL
  obtain ⟨d, rfl⟩ : ∃ d, k = l.length + d := ⟨k - l.length, by omega⟩
  clear h
  induction d with
  | zero => rfl
  | succ d ih => rw [← Nat.add_assoc, ← scan_more _ _ _ _ (by omega)]; exact ih
theorem scanL_nil (acc : List Tok) (st : Sc) : scanL acc st [] = endOf acc st := rfl
theorem scanL_cons (acc : List Tok) (st : Sc) (c : UInt8) (l : Bytes) : scanL acc st (c :: l) = match step acc st c l with
    | .inl (acc', st', l') => scanL acc' st' l'
    | .inr e => ([], e) := by
  rw [scanL, List.length_cons, scan]
  cases hs : step acc st c l with
  | inr e => rfl
  | inl x =>
    obtain ⟨a, s, r⟩ := x
    exact scan_enough _ _ _ _ (step_le hs)

/-! The document's Scan -/
def tok148 (t : Tok) : S160 := ⟨t.1, str t.2⟩
def wOf : Sc → Bytes
  | .atom w => w
  | .quot w _ => w
  | _ => []
def whereOf : Sc → Int
  | .out => 0
  | .atom _ => 1
  | .quot _ _ => 2
  | .comm _ _ => 3
def behindOf : Sc → Bool
  | .quot _ b => b
  | .comm _ b => b
  | _ => false
def deepOk (d : Int) : Sc → Prop
  | .comm n _ => d = n ∧ 1 ≤ n ∧ n ≤ 16
  | _ => 0 ≤ d ∧ d ≤ 16
theorem byte_ofNat (c : UInt8) (n : Nat) (h : n < 256) : ((c.toNat : Int) = ((n : Nat) : Int)) ↔ c = UInt8.ofNat n := by rw [byte_eq c n h]
def res148 (acc : List Tok) (st : Sc) (r : Bytes) : List S160 × Int := ((scanL acc st r).1.map tok148, (scanL acc st r).2)
def Behind (s : ByteArray) (k m : Nat) : Prop := ∀ (acc : List Tok) (st : Sc) (d : Int) (r : Bytes) (j : Nat), r.length ≤ m → (bs s).drop j = r → j ≤ (bs s).length → deepOk d st → acc.length ≤ 2 * j → (wOf st).length ≤ j →
  bulletinref12_Scan.l0 k s (acc.map tok148) (str (wOf st)) (whereOf st) d (behindOf st) (j : Int) = some (res148 acc st r)
theorem tail_drop {s : ByteArray} {i : Nat} {c : UInt8} {l : Bytes} (hd : (bs s).drop i = c :: l) (hf : foldAt (c :: l) = true) : (bs s).drop (i + 2) = l.tail ∧ i + 2 ≤ (bs s).length ∧ l.tail.length ≤ l.length := by
  obtain ⟨h1, h2, h3, h4⟩ := drop_cons hd
  cases l with
  | nil => cases hf
  | cons b l =>
    obtain ⟨g1, g2, g3, g4⟩ := drop_cons h3
    exact ⟨g3, by omega, by simp⟩
end Go.Proofs.YtgaaogijfikfeaaDoor.Pl
set_option linter.unusedVariables false
namespace Go.Proofs.YtgaaogijfikfeaaDoor.Pl
open Go.RowKit Go.Proofs.YtgaaogijfikfeaaDoorW.PrintWords Go.Proofs.YtgaaogijfikfeaaDoor.Fn

/-! Layer 12, the program's: its Scan is the same machine. -/
set_option maxRecDepth 100000 in
theorem lexsign_is (c : UInt8) : lex_sign.f (c.toNat : Int) = some (signB c) := forall_byte (p := fun c => lex_sign.f (c.toNat : Int) = some (signB c)) (by decide +kernel) c
set_option maxRecDepth 100000 in
theorem lexwhite_is (c : UInt8) : lex_white.f (c.toNat : Int) = some (whiteB c) := forall_byte (p := fun c => lex_white.f (c.toNat : Int) = some (whiteB c)) (by decide +kernel) c
set_option maxRecDepth 100000 in
theorem atomic_apart (c : UInt8) : atomic c = true → c ≠ 13 ∧ c ≠ 40 ∧ c ≠ 34 ∧ c ≠ 32 ∧ c ≠ 9 ∧ signB c = false := forall_byte (p := fun c => atomic c = true → c ≠ 13 ∧ c ≠ 40 ∧ c ≠ 34 ∧ c ≠ 32 ∧ c ≠ 9 ∧ signB c = false) (by decide +kernel) c
set_option maxRecDepth 100000 in
theorem white_apart (c : UInt8) : whiteB c = true → c ≠ 13 ∧ c ≠ 40 ∧ c ≠ 34 ∧ atomic c = false ∧ signB c = false := forall_byte (p := fun c => whiteB c = true → c ≠ 13 ∧ c ≠ 40 ∧ c ≠ 34 ∧ atomic c = false ∧ signB c = false) (by decide +kernel) c
theorem fold_not {c : UInt8} (h : c ≠ 13) (l : Bytes) : foldAt (c :: l) = false := by
  cases l with
  | nil => rfl
  | cons b l =>
    cases l with
    | nil => rfl
    | cons e l => simp only [foldAt]; simp [h]
theorem lexfold_is (s : ByteArray) (hs : s.size ≤ 1000000) : lex_fold.f s = some (foldAt (bs s)) := by
  have hlen := bs_length s
  unfold lex_fold.f
  cases hb : bs s with
  | nil =>
    rw [hb] at hlen
    simp only [List.length_nil] at hlen
    rw [if_neg (by omega)]; rfl
  | cons a l =>
    have h0 : (bs s).drop 0 = a :: l := by simpa using hb
    cases l with
    | nil =>
      rw [hb] at hlen
      simp only [List.length_cons, List.length_nil] at hlen
      rw [if_neg (by omega)]; rfl
    | cons b l =>
      have h1 : (bs s).drop 1 = b :: l := (drop_cons h0).2.2.1
      cases l with
      | nil =>
        rw [hb] at hlen
        simp only [List.length_cons, List.length_nil] at hlen
        rw [if_neg (by omega)]; rfl
      | cons c l =>
        have h2 : (bs s).drop 2 = c :: l := (drop_cons h1).2.2.1
        rw [hb] at hlen
        simp only [List.length_cons] at hlen
        have e0 : bt s 0 = (a.toNat : Int) := bt_drop h0
        have e1 : bt s 1 = (b.toNat : Int) := bt_drop h1
        have e2 : bt s 2 = (c.toNat : Int) := bt_drop h2
        rw [if_pos (by omega), if_pos (by omega), e0]
        by_cases a13 : a = 13
        · rw [if_pos (by rw [a13]; rfl), if_pos (by omega), e1]
          by_cases b10 : b = 10
          · rw [if_pos (by rw [b10]; rfl), if_pos (by omega), e2, lexwhite_is, a13, b10]
            simp [foldAt]
          · rw [if_neg (c := (b.toNat : Int) = 10) (fun h => b10 ((byte_ofNat b 10 (by decide)).1 h))]
            simp [foldAt, b10]
        · rw [if_neg (c := (a.toNat : Int) = 13) (fun h => a13 ((byte_ofNat a 13 (by decide)).1 h))]
          simp [foldAt, a13]
def escL : Bytes → Int
  | [] => 9
  | c :: _ => if text c = true then 0 else 3
theorem lexescaped_is (s : ByteArray) : lex_escaped.f s = some (escL (bs s)) := by
  unfold lex_escaped.f
  rw [toList_bs]
  cases hb : bs s with
  | nil => rw [if_pos rfl]; rfl
  | cons c l =>
    have hlen := bs_length s
    rw [hb] at hlen
    simp only [List.length_cons] at hlen
    have e0 : bt s 0 = (c.toNat : Int) := bt_drop (s := s) (i := 0) (by simpa using hb)
    rw [if_neg (by simp), if_pos (by omega), e0, text_is, Option.bind_some]
    show (if text c = true then some (0 : Int) else some 3) = some (if text c = true then 0 else 3)
    cases text c <;> rfl
theorem bs_rest (s : ByteArray) (i : Nat) : bs (s.extract i s.size) = (bs s).drop i := by
  rw [bs_extract, List.take_of_length_le (by rw [bs_length]; exact Nat.le_refl _)]
theorem str_rest (s : ByteArray) (i : Nat) : s.extract i s.size = str ((bs s).drop i) := by
  apply bs_inj
  rw [bs_rest, bs_str]
def QuotSays (s : ByteArray) (k i : Nat) (w l : Bytes) : Prop :=
  (∃ w' r, lex_quoted.l0 k s (numsOf w) (i : Int) = some (2, str w', str r, 0) ∧ r.length ≤ l.length ∧ ∀ acc, scanL acc (.quot w false) l = scanL (acc ++ [(2, w')]) .out r) ∨
  (∃ e, e ≠ 0 ∧ lex_quoted.l0 k s (numsOf w) (i : Int) = some (0, str [], str [], e) ∧ ∀ acc, scanL acc (.quot w false) l = ([], e))
theorem QuotSays.le {s : ByteArray} {k k' i i' : Nat} {w w' l l' : Bytes} (h : QuotSays s k i w l) (hk : lex_quoted.l0 k' s (numsOf w') (i' : Int) = lex_quoted.l0 k s (numsOf w) (i : Int)) (hl : l.length ≤ l'.length) (hs : ∀ acc, scanL acc (.quot w' false) l' = scanL acc (.quot w false) l) : QuotSays s k' i' w' l' := by
  rcases h with ⟨a, r, h1, h2, h3⟩ | ⟨e, h1, h2, h3⟩
  · exact .inl ⟨a, r, hk.trans h1, by omega, fun acc => (hs acc).trans (h3 acc)⟩
  · exact .inr ⟨e, h1, hk.trans h2, fun acc => (hs acc).trans (h3 acc)⟩
theorem lexquoted_l0 (s : ByteArray) (hs : s.size ≤ 1000000) : ∀ (n k i : Nat) (w l : Bytes), l.length ≤ n → n + 1 ≤ k → (bs s).drop i = l → i ≤ (bs s).length → w.length ≤ i → QuotSays s k i w l
  | n, k, i, w, [], hn, hk, hd, hi, hw => by
    obtain ⟨k, rfl⟩ : ∃ j, k = j + 1 := ⟨k - 1, by omega⟩
    have := drop_nil hd
    rw [bs_length] at this hi
    refine .inr ⟨9, by decide, ?_, fun acc => rfl⟩
    rw [lex_quoted.l0, if_neg (by omega)]
    rfl
  | 0, k, i, w, c :: l, hn, hk, hd, hi, hw => by simp at hn
  | n + 1, k, i, w, c :: l, hn, hk, hd, hi, hw => by
    obtain ⟨k, rfl⟩ : ∃ j, k = j + 1 := ⟨k - 1, by omega⟩
    obtain ⟨h1, h2, h3, h4⟩ := drop_cons hd
    have h5 : i < s.size := by rw [bs_length] at h1; exact h1
    simp only [List.length_cons] at hn
    have e1 : wrap64 ((i : Int) + 1) = ((i + 1 : Nat) : Int) := wrap_succ i (by omega)
    have e2 : wrap64 (wrap64 ((i : Int) + 1) + 1) = ((i + 2 : Nat) : Int) := by rw [e1, wrap_succ (i + 1) (by omega)]
    have hl0 : ∀ X : Option (Int × ByteArray × ByteArray × Int), X = lex_quoted.l0 (k + 1) s (numsOf w) (i : Int) → lex_quoted.l0 (k + 1) s (numsOf w) (i : Int) = X := fun X h => h.symm
    have hstart : lex_quoted.l0 (k + 1) s (numsOf w) (i : Int) = (if foldAt (c :: l) = true then (lex_quoted.l0 k s (numsOf w) ((i + 2 : Nat) : Int)) else (if (c.toNat : Int) = 92 then (if escL l = 0 then (lex_quoted.l0 k s (numsOf w ++ [bt s ((i + 1 : Nat) : Int)]) ((i + 2 : Nat) : Int)) else some (0, (⟨#[]⟩ : ByteArray), (⟨#[]⟩ : ByteArray), escL l)) else (if (c.toNat : Int) = 34 then some (2, strOfNums (numsOf w), str l, 0) else (if text c = true then lex_quoted.l0 k s (numsOf w ++ [(c.toNat : Int)]) ((i + 1 : Nat) : Int) else some (0, (⟨#[]⟩ : ByteArray), (⟨#[]⟩ : ByteArray), 3))))) := by
      rw [lex_quoted.l0, if_pos (by omega), if_pos (by omega), if_pos (by omega)]
      simp only [Int.toNat_natCast]
      rw [lexfold_is _ (by simp only [ByteArray.size_extract]; omega), bs_rest, hd, Option.bind_some]
      cases hf : foldAt (c :: l) with
      | true => rw [if_pos rfl, if_pos rfl, e2]
      | false =>
        rw [if_neg (c := false = true) (by decide), if_neg (c := false = true) (by decide), bt_drop hd]
        by_cases c92 : (c.toNat : Int) = 92
        · rw [if_pos c92, if_pos c92, e1, if_pos (by omega), if_pos (by omega)]
          simp only [Int.toNat_natCast]
          rw [lexescaped_is, bs_rest, h3, Option.bind_some]
          by_cases he : escL l = 0
          · rw [if_pos he, if_pos he]
            have hne : i + 1 < s.size := by
              rcases Nat.lt_or_ge (i + 1) s.size with q | q
              · exact q
              · have : l = [] := by rw [← h3]; exact List.drop_of_length_le (by rw [bs_length]; exact q)
                rw [this] at he; cases he
            rw [if_pos (by omega), if_pos (by rw [numsOf_length]; omega), wrap_succ (i + 1) (by omega)]
          · rw [if_neg he, if_neg he]
        · rw [if_neg c92, if_neg c92]
          by_cases c34 : (c.toNat : Int) = 34
          · rw [if_pos c34, if_pos c34, e1, if_pos (by omega), if_pos (by omega)]
            simp only [Int.toNat_natCast]
            rw [str_rest, h3]
          · rw [if_neg c34, if_neg c34, text_is, Option.bind_some]
            cases ht : text c with
            | true => rw [if_pos rfl, if_pos rfl, if_pos (by rw [numsOf_length]; omega), e1]
            | false => rw [if_neg (c := false = true) (by decide), if_neg (c := false = true) (by decide)]
    cases hf : foldAt (c :: l) with
    | true =>
      obtain ⟨t1, t2, t3⟩ := tail_drop hd hf
      rw [hf, if_pos rfl] at hstart
      refine (lexquoted_l0 s hs n k (i + 2) w l.tail (by omega) (by omega) t1 t2 (by omega)).le hstart (by simp; omega) (fun acc => ?_)
      rw [scanL_cons]
      unfold step
      simp only []
      rw [hf, if_pos rfl]
    | false =>
      rw [hf, if_neg (by decide)] at hstart
      by_cases c92 : c = 92
      · rw [if_pos (by rw [c92]; rfl)] at hstart
        have hst : ∀ acc, scanL acc (.quot w false) (c :: l) = scanL acc (.quot w true) l := by
          intro acc
          rw [scanL_cons]
          unfold step
          simp only []
          rw [hf, if_neg (by decide), if_pos c92]
        cases hl : l with
        | nil =>
          rw [hl] at hstart
          refine .inr ⟨9, by decide, hstart.trans rfl, fun acc => ?_⟩
          rw [← hl, hst, hl]
          rfl
        | cons x l2 =>
          have hdx : (bs s).drop (i + 1) = x :: l2 := by rw [h3, hl]
          obtain ⟨g1, g2, g3, g4⟩ := drop_cons hdx
          have hsx : ∀ acc, scanL acc (.quot w false) (c :: x :: l2) = if text x = true then scanL acc (.quot (w ++ [x]) false) l2 else ([], 3) := by
            intro acc
            rw [← hl, hst, hl, scanL_cons]
            unfold step
            cases text x <;> rfl
          rw [hl] at hstart hn
          simp only [List.length_cons] at hn
          cases ht : text x with
          | true =>
            rw [show escL (x :: l2) = 0 by show (if text x = true then (0 : Int) else 3) = 0; rw [ht]; rfl, if_pos rfl, bt_drop hdx, show numsOf w ++ [(x.toNat : Int)] = numsOf (w ++ [x]) by simp [numsOf]] at hstart
            refine (lexquoted_l0 s hs n k (i + 2) (w ++ [x]) l2 (by omega) (by omega) g3 (by omega) (by simp; omega)).le hstart (by simp; omega) (fun acc => ?_)
            rw [hsx, ht, if_pos rfl]
          | false =>
            rw [show escL (x :: l2) = 3 by show (if text x = true then (0 : Int) else 3) = 3; rw [ht]; rfl, if_neg (by decide)] at hstart
            exact .inr ⟨3, by decide, hstart, fun acc => by rw [hsx, ht]; rfl⟩
      · rw [if_neg (c := (c.toNat : Int) = 92) (fun h => c92 ((byte_ofNat c 92 (by decide)).1 h))] at hstart
        by_cases c34 : c = 34
        · rw [if_pos (by rw [c34]; rfl), strOfNums_of] at hstart
          refine .inl ⟨w, l, hstart, by simp, fun acc => ?_⟩
          rw [scanL_cons]
          unfold step
          simp only []
          rw [hf, if_neg (by decide), if_neg c92, if_pos (by rw [c34]; exact text_34), if_pos c34]
        · rw [if_neg (c := (c.toNat : Int) = 34) (fun h => c34 ((byte_ofNat c 34 (by decide)).1 h))] at hstart
          cases ht : text c with
          | true =>
            rw [ht, if_pos rfl, show numsOf w ++ [(c.toNat : Int)] = numsOf (w ++ [c]) by simp [numsOf]] at hstart
            refine (lexquoted_l0 s hs n k (i + 1) (w ++ [c]) l (by omega) (by omega) h3 (by omega) (by simp; omega)).le hstart (by simp) (fun acc => ?_)
            rw [scanL_cons]
            unfold step
            simp only []
            rw [hf, ht, if_neg (by decide), if_neg c92, if_pos rfl, if_neg c34]
          | false =>
            rw [ht, if_neg (by decide)] at hstart
            refine .inr ⟨3, by decide, hstart, fun acc => ?_⟩
            rw [scanL_cons]
            unfold step
            simp only []
            rw [hf, ht, if_neg (by decide), if_neg c92, if_neg (by decide)]

def CommSays (s : ByteArray) (k i m : Nat) (l : Bytes) : Prop :=
  (∃ r, lex_comment.l0 k s (m : Int) (i : Int) = some (str r, 0) ∧ r.length ≤ l.length ∧ ∀ acc, scanL acc (.comm m false) l = scanL acc .out r) ∨
  (∃ e, e ≠ 0 ∧ lex_comment.l0 k s (m : Int) (i : Int) = some (str [], e) ∧ ∀ acc, scanL acc (.comm m false) l = ([], e))
theorem CommSays.le {s : ByteArray} {k k' i i' m m' : Nat} {l l' : Bytes} (h : CommSays s k i m l) (hk : lex_comment.l0 k' s (m' : Int) (i' : Int) = lex_comment.l0 k s (m : Int) (i : Int)) (hl : l.length ≤ l'.length) (hs : ∀ acc, scanL acc (.comm m' false) l' = scanL acc (.comm m false) l) : CommSays s k' i' m' l' := by
  rcases h with ⟨r, h1, h2, h3⟩ | ⟨e, h1, h2, h3⟩
  · exact .inl ⟨r, hk.trans h1, by omega, fun acc => (hs acc).trans (h3 acc)⟩
  · exact .inr ⟨e, h1, hk.trans h2, fun acc => (hs acc).trans (h3 acc)⟩
theorem text_40 : text 40 = true := by decide +kernel
theorem text_41 : text 41 = true := by decide +kernel
theorem lexcomment_l0 (s : ByteArray) (hs : s.size ≤ 1000000) : ∀ (n k i m : Nat) (l : Bytes), l.length ≤ n → 3 * n + 3 ≤ k → (bs s).drop i = l → i ≤ (bs s).length → 1 ≤ m → m ≤ 16 → CommSays s k i m l
  | n, k, i, m, [], hn, hk, hd, hi, hm1, hm2 => by
    obtain ⟨k, rfl⟩ : ∃ j, k = j + 1 := ⟨k - 1, by omega⟩
    have := drop_nil hd
    rw [bs_length] at this hi
    refine .inr ⟨9, by decide, ?_, fun acc => rfl⟩
    rw [lex_comment.l0, if_neg (by omega), if_pos (by omega)]
    rfl
  | 0, k, i, m, c :: l, hn, hk, hd, hi, hm1, hm2 => by simp at hn
  | n + 1, k, i, m, c :: l, hn, hk, hd, hi, hm1, hm2 => by
    obtain ⟨k, rfl⟩ : ∃ j, k = j + 3 := ⟨k - 3, by omega⟩
    obtain ⟨h1, h2, h3, h4⟩ := drop_cons hd
    have h5 : i < s.size := by rw [bs_length] at h1; exact h1
    simp only [List.length_cons] at hn
    have e1 : wrap64 ((i : Int) + 1) = ((i + 1 : Nat) : Int) := wrap_succ i (by omega)
    have e2 : wrap64 (wrap64 ((i : Int) + 1) + 1) = ((i + 2 : Nat) : Int) := by rw [e1, wrap_succ (i + 1) (by omega)]
    have hstart : lex_comment.l0 (k + 3) s (m : Int) (i : Int) = (if foldAt (c :: l) = true then (lex_comment.l0 (k + 2) s (m : Int) ((i + 2 : Nat) : Int)) else (if (c.toNat : Int) = 92 then (if escL l = 0 then (lex_comment.l0 (k + 2) s (m : Int) ((i + 2 : Nat) : Int)) else some ((⟨#[]⟩ : ByteArray), escL l)) else (if (c.toNat : Int) = 40 then lex_comment.j1 (k + 2) s (m : Int) (i : Int) (c.toNat : Int) ((m : Int) == 16) else lex_comment.j1 (k + 2) s (m : Int) (i : Int) (c.toNat : Int) false))) := by
      rw [lex_comment.l0, if_pos (by omega), if_pos (by omega), if_pos (by omega)]
      simp only [Int.toNat_natCast]
      rw [lexfold_is _ (by simp only [ByteArray.size_extract]; omega), bs_rest, hd, Option.bind_some]
      cases hf : foldAt (c :: l) with
      | true => rw [if_pos rfl, if_pos rfl, e2]
      | false =>
        rw [if_neg (c := false = true) (by decide), if_neg (c := false = true) (by decide), bt_drop hd]
        by_cases c92 : (c.toNat : Int) = 92
        · rw [if_pos c92, if_pos c92, e1, if_pos (by omega), if_pos (by omega)]
          simp only [Int.toNat_natCast]
          rw [lexescaped_is, bs_rest, h3, Option.bind_some, wrap_succ (i + 1) (by omega)]
        · rw [if_neg c92, if_neg c92]
    cases hf : foldAt (c :: l) with
    | true =>
      obtain ⟨t1, t2, t3⟩ := tail_drop hd hf
      rw [hf, if_pos rfl] at hstart
      refine (lexcomment_l0 s hs n (k + 2) (i + 2) m l.tail (by omega) (by omega) t1 t2 hm1 hm2).le hstart (by simp; omega) (fun acc => ?_)
      rw [scanL_cons]
      unfold step
      simp only []
      rw [hf, if_pos rfl]
    | false =>
      rw [hf, if_neg (by decide)] at hstart
      by_cases c92 : c = 92
      · rw [if_pos (by rw [c92]; rfl)] at hstart
        have hst : ∀ acc, scanL acc (.comm m false) (c :: l) = scanL acc (.comm m true) l := by
          intro acc
          rw [scanL_cons]
          unfold step
          simp only []
          rw [hf, if_neg (by decide), if_pos c92]
        cases hl : l with
        | nil =>
          rw [hl] at hstart
          refine .inr ⟨9, by decide, hstart.trans rfl, fun acc => ?_⟩
          rw [← hl, hst, hl]
          rfl
        | cons x l2 =>
          have hdx : (bs s).drop (i + 1) = x :: l2 := by rw [h3, hl]
          obtain ⟨g1, g2, g3, g4⟩ := drop_cons hdx
          have hsx : ∀ acc, scanL acc (.comm m false) (c :: x :: l2) = if text x = true then scanL acc (.comm m false) l2 else ([], 3) := by
            intro acc
            rw [← hl, hst, hl, scanL_cons]
            unfold step
            cases text x <;> rfl
          rw [hl] at hstart hn
          simp only [List.length_cons] at hn
          cases ht : text x with
          | true =>
            rw [show escL (x :: l2) = 0 by show (if text x = true then (0 : Int) else 3) = 0; rw [ht]; rfl, if_pos rfl] at hstart
            refine (lexcomment_l0 s hs n (k + 2) (i + 2) m l2 (by omega) (by omega) g3 (by omega) hm1 hm2).le hstart (by simp; omega) (fun acc => ?_)
            rw [hsx, ht, if_pos rfl]
          | false =>
            rw [show escL (x :: l2) = 3 by show (if text x = true then (0 : Int) else 3) = 3; rw [ht]; rfl, if_neg (by decide)] at hstart
            exact .inr ⟨3, by decide, hstart, fun acc => by rw [hsx, ht]; rfl⟩
      · rw [if_neg (c := (c.toNat : Int) = 92) (fun h => c92 ((byte_ofNat c 92 (by decide)).1 h))] at hstart
        have hst : text c = true → ∀ acc, scanL acc (.comm m false) (c :: l) = (match commAfter acc (if c = 40 then m + 1 else if c = 41 then m - 1 else m) l with | .inl (a, t, r) => scanL a t r | .inr e => ([], e)) := by
          intro ht acc
          rw [scanL_cons]
          unfold step
          simp only []
          rw [hf, ht, if_neg (by decide), if_neg c92, if_pos rfl]
          all_goals rfl
        by_cases c40 : c = 40
        · have ht : text c = true := by rw [c40]; exact text_40
          rw [if_pos (by rw [c40]; rfl), lex_comment.j1] at hstart
          by_cases h16 : m = 16
          · rw [show ((m : Int) == 16) = true by rw [h16]; rfl, if_pos rfl] at hstart
            refine .inr ⟨1, by decide, hstart, fun acc => ?_⟩
            rw [hst ht, if_pos c40]
            unfold commAfter
            rw [if_pos (by omega)]
          · rw [show ((m : Int) == 16) = false by rw [beq_eq_false_iff_ne]; omega, if_neg (by decide), if_pos (by rw [c40]; rfl), e1, wrap_id (by omega) (by omega), show ((m : Int) + 1) = ((m + 1 : Nat) : Int) by omega] at hstart
            refine (lexcomment_l0 s hs n (k + 1) (i + 1) (m + 1) l (by omega) (by omega) h3 (by omega) (by omega) (by omega)).le hstart (by simp) (fun acc => ?_)
            rw [hst ht, if_pos c40]
            unfold commAfter
            rw [if_neg (by omega), if_neg (by omega)]
        · rw [if_neg (c := (c.toNat : Int) = 40) (fun h => c40 ((byte_ofNat c 40 (by decide)).1 h)), lex_comment.j1, if_neg (by decide), if_neg (c := (c.toNat : Int) = 40) (fun h => c40 ((byte_ofNat c 40 (by decide)).1 h))] at hstart
          by_cases c41 : c = 41
          · have ht : text c = true := by rw [c41]; exact text_41
            rw [if_pos (by rw [c41]; rfl), lex_comment.j2] at hstart
            by_cases h1' : m = 1
            · rw [show ((m : Int) == 1) = true by rw [h1']; rfl, if_pos rfl, e1, if_pos (by omega), if_pos (by omega), if_neg (by decide)] at hstart
              simp only [Int.toNat_natCast] at hstart
              rw [str_rest, h3] at hstart
              refine .inl ⟨l, hstart, by simp, fun acc => ?_⟩
              rw [hst ht, if_neg c40, if_pos c41, h1']
              rfl
            · rw [show ((m : Int) == 1) = false by rw [beq_eq_false_iff_ne]; omega, if_neg (by decide), if_pos (by rw [c41]; rfl), e1, wrap_id (by omega) (by omega), show ((m : Int) - 1) = ((m - 1 : Nat) : Int) by omega] at hstart
              refine (lexcomment_l0 s hs n k (i + 1) (m - 1) l (by omega) (by omega) h3 (by omega) (by omega) (by omega)).le hstart (by simp) (fun acc => ?_)
              rw [hst ht, if_neg c40, if_pos c41]
              unfold commAfter
              rw [if_neg (by omega), if_neg (by omega)]
          · rw [if_neg (c := (c.toNat : Int) = 41) (fun h => c41 ((byte_ofNat c 41 (by decide)).1 h)), lex_comment.j2, if_neg (by decide), if_neg (c := (c.toNat : Int) = 41) (fun h => c41 ((byte_ofNat c 41 (by decide)).1 h)), text_is, Option.bind_some] at hstart
            cases ht : text c with
            | true =>
              rw [ht, if_pos rfl, e1] at hstart
              refine (lexcomment_l0 s hs n k (i + 1) m l (by omega) (by omega) h3 (by omega) hm1 hm2).le hstart (by simp) (fun acc => ?_)
              rw [hst ht, if_neg c40, if_neg c41]
              unfold commAfter
              rw [if_neg (by omega), if_neg (by omega)]
            | false =>
              rw [ht, if_neg (by decide)] at hstart
              refine .inr ⟨3, by decide, hstart, fun acc => ?_⟩
              rw [scanL_cons]
              unfold step
              simp only []
              rw [hf, ht, if_neg (by decide), if_neg c92, if_neg (by decide)]

theorem lexatom_l0 (s : ByteArray) (hs : s.size ≤ 1000000) : ∀ (n k i : Nat) (l : Bytes), l.length ≤ n → n + 1 ≤ k → (bs s).drop i = l → i ≤ (bs s).length → 1 ≤ i →
    ∃ j, i ≤ j ∧ j ≤ (bs s).length ∧ lex_next.l0 k s (i : Int) = some (1, str ((bs s).take j), str ((bs s).drop j), 0) ∧ ∀ acc, scanL acc (.atom ((bs s).take i)) l = scanL (acc ++ [(1, (bs s).take j)]) .out ((bs s).drop j)
  | n, k, i, [], hn, hk, hd, hi, h1 => by
    obtain ⟨k, rfl⟩ : ∃ j, k = j + 1 := ⟨k - 1, by omega⟩
    have := drop_nil hd
    have hl := bs_length s
    refine ⟨i, Nat.le_refl _, hi, ?_, fun acc => by rw [hd]; rfl⟩
    rw [lex_next.l0, if_neg (by omega), if_neg (by omega), if_pos (by omega), if_pos (by omega)]
    simp only [Int.toNat_natCast]
    rw [str_rest, show s.extract 0 i = str ((bs s).take i) by apply bs_inj; rw [bs_extract, bs_str, List.drop_zero]]
  | 0, k, i, c :: l, hn, hk, hd, hi, h1 => by simp at hn
  | n + 1, k, i, c :: l, hn, hk, hd, hi, h0 => by
    obtain ⟨k, rfl⟩ : ∃ j, k = j + 1 := ⟨k - 1, by omega⟩
    obtain ⟨h1, h2, h3, h4⟩ := drop_cons hd
    have h5 : i < s.size := by rw [bs_length] at h1; exact h1
    simp only [List.length_cons] at hn
    cases ha : atomic c with
    | true =>
      obtain ⟨j, q1, q2, q3, q4⟩ := lexatom_l0 s hs n k (i + 1) l (by omega) (by omega) h3 (by omega) (by omega)
      refine ⟨j, by omega, q2, ?_, fun acc => ?_⟩
      · rw [lex_next.l0, if_pos (by omega), if_pos (by omega), bt_drop hd, atomic_is, Option.bind_some, ha, if_pos rfl, wrap_succ i (by omega)]
        exact q3
      · rw [scanL_cons]
        unfold step
        simp only []
        rw [ha, if_pos rfl, ← h4]
        exact q4 acc
    | false =>
      refine ⟨i, Nat.le_refl _, by omega, ?_, fun acc => ?_⟩
      · rw [lex_next.l0, if_pos (by omega), if_pos (by omega), bt_drop hd, atomic_is, Option.bind_some, ha, if_neg (by decide), if_neg (by omega), if_pos (by omega)]
        simp only [Int.toNat_natCast]
        rw [str_rest, show s.extract 0 i = str ((bs s).take i) by apply bs_inj; rw [bs_extract, bs_str, List.drop_zero]]
      · rw [hd, scanL_cons, scanL_cons]
        unfold step
        simp only []
        rw [ha, if_neg (by decide)]
theorem wrap_01 : wrap64 ((0 : Int) + 1) = ((1 : Nat) : Int) := wrap_succ 0 (by decide)
theorem lexnext_is (s : ByteArray) (hs : s.size ≤ 1000000) (c : UInt8) (l : Bytes) (hb : bs s = c :: l) (k : Nat) (hk : 3 * s.size + 10 ≤ k) :
    (∃ (kd : Int) (t r : Bytes), lex_next.f k s = some (kd, str t, str r, 0) ∧ r.length ≤ l.length ∧ ∀ acc, scanL acc .out (c :: l) = scanL (if kd = 0 then acc else acc ++ [(kd, t)]) .out r) ∨
    (∃ (kd : Int) (t : Bytes) (r : ByteArray) (e : Int), e ≠ 0 ∧ lex_next.f k s = some (kd, str t, r, e) ∧ ∀ acc, scanL acc .out (c :: l) = ([], e)) := by
  have hlen := bs_length s
  rw [hb] at hlen
  simp only [List.length_cons] at hlen
  have hd : (bs s).drop 0 = c :: l := by rw [hb]; rfl
  have hd1 : (bs s).drop 1 = l := (drop_cons hd).2.2.1
  have hbt : bt s 0 = (c.toNat : Int) := bt_drop hd
  have eE : s.extract 1 s.size = str l := by rw [str_rest, hd1]
  have hsc : ∀ acc, scanL acc .out (c :: l) = (match stepOut acc c l with | .inl (a, t, r) => scanL a t r | .inr e => ([], e)) := by
    intro acc
    rw [scanL_cons]
    rfl
  have hout : ∀ (a b d e f g : Bool), foldAt (c :: l) = a → atomic c = b → signB c = f → whiteB c = g → ∀ acc, stepOut acc c l = if a = true then .inl (acc, .out, l.tail) else if b = true then .inl (acc, .atom [c], l) else if c = 34 then .inl (acc, .quot [] false, l) else if c = 40 then .inl (acc, .comm 1 false, l) else if f = true then .inl (acc ++ [(3, [c])], .out, l) else if g = true then .inl (acc, .out, l) else .inr 3 := by
    intro a b d e f g h1 h2 h3 h4 acc
    unfold stepOut
    rw [h1, h2, h3, h4]
  unfold lex_next.f
  rw [if_pos (by omega), hbt, lexwhite_is, Option.bind_some]
  cases hw : whiteB c with
  | true =>
    obtain ⟨n13, n40, n34, na, ns⟩ := white_apart c hw
    have hf := fold_not n13 l
    rw [if_pos rfl, if_pos (by omega), eE]
    refine .inl ⟨0, [], l, rfl, Nat.le_refl _, fun acc => ?_⟩
    rw [hsc, hout false false false false false true hf na ns hw, if_neg (by decide), if_neg (by decide), if_neg n34, if_neg n40, if_neg (by decide), if_pos rfl, if_pos rfl]
  | false =>
    rw [if_neg (by decide), lexfold_is s hs, Option.bind_some, hb]
    cases hf : foldAt (c :: l) with
    | true =>
      obtain ⟨t1, t2, t3⟩ := tail_drop hd hf
      rw [bs_length] at t2
      rw [if_pos rfl, if_pos (by omega), show s.extract 2 s.size = str l.tail by rw [str_rest]; congr 1]
      refine .inl ⟨0, [], l.tail, rfl, by simp, fun acc => ?_⟩
      rw [hsc, hout true _ false false _ _ hf rfl rfl rfl, if_pos rfl, if_pos rfl]
    | false =>
      rw [if_neg (c := false = true) (by decide)]
      by_cases c40 : c = 40
      · have na : atomic c = false := by rw [c40]; decide +kernel
        rw [if_pos (by rw [c40]; rfl)]
        obtain ⟨k, rfl⟩ : ∃ j, k = j + 2 := ⟨k - 2, by omega⟩
        have hcm : lex_comment.f (k + 2) s = lex_comment.l0 k s ((1 : Nat) : Int) ((1 : Nat) : Int) := by
          unfold lex_comment.f
          rw [lex_comment.l0, if_pos (by omega), if_pos (by decide), if_pos (by omega), show s.extract (0 : Int).toNat s.size = s from extract_all s, lexfold_is s hs, hb, hf, Option.bind_some, if_neg (by decide), hbt, if_neg (c := (c.toNat : Int) = 92) (by rw [c40]; decide), if_pos (by rw [c40]; rfl), show ((0 : Int) == 16) = false from rfl, lex_comment.j1, if_neg (by decide), if_pos (by rw [c40]; rfl), wrap_01]
        rw [hcm]
        have hso : ∀ acc, scanL acc .out (c :: l) = scanL acc (.comm 1 false) l := by
          intro acc
          rw [hsc, hout false false false false _ _ hf na rfl rfl, if_neg (by decide), if_neg (by decide), if_neg (by rw [c40]; decide), if_pos c40]
        rcases lexcomment_l0 s hs l.length k 1 1 l (Nat.le_refl _) (by omega) hd1 (by rw [hb]; simp) (by decide) (by decide) with ⟨r, h1, h2, h3⟩ | ⟨e, h1, h2, h3⟩
        · rw [h1]
          exact .inl ⟨0, [], r, rfl, h2, fun acc => by rw [hso, h3, if_pos rfl]⟩
        · rw [h2]
          exact .inr ⟨0, [], str [], e, h1, rfl, fun acc => by rw [hso, h3]⟩
      · rw [if_neg (c := (c.toNat : Int) = 40) (fun h => c40 ((byte_ofNat c 40 (by decide)).1 h))]
        by_cases c34 : c = 34
        · have na : atomic c = false := by rw [c34]; decide +kernel
          rw [if_pos (by rw [c34]; rfl)]
          have hso : ∀ acc, scanL acc .out (c :: l) = scanL acc (.quot [] false) l := by
            intro acc
            rw [hsc, hout false false false false _ _ hf na rfl rfl, if_neg (by decide), if_neg (by decide), if_pos c34]
          rcases lexquoted_l0 s hs l.length k 1 [] l (Nat.le_refl _) (by omega) hd1 (by rw [hb]; simp) (by simp) with ⟨w', r, h1, h2, h3⟩ | ⟨e, h1, h2, h3⟩
          · rw [show lex_quoted.f k s = lex_quoted.l0 k s (numsOf []) ((1 : Nat) : Int) from rfl, h1]
            exact .inl ⟨2, w', r, rfl, h2, fun acc => by rw [hso, h3, if_neg (by decide)]⟩
          · rw [show lex_quoted.f k s = lex_quoted.l0 k s (numsOf []) ((1 : Nat) : Int) from rfl, h2]
            exact .inr ⟨0, [], str [], e, h1, rfl, fun acc => by rw [hso, h3]⟩
        · rw [if_neg (c := (c.toNat : Int) = 34) (fun h => c34 ((byte_ofNat c 34 (by decide)).1 h)), lexsign_is, Option.bind_some]
          cases hsg : signB c with
          | true =>
            have na : atomic c = false := by
              cases ha : atomic c with
              | false => rfl
              | true => have := (atomic_apart c ha).2.2.2.2.2; rw [hsg] at this; cases this
            rw [if_pos rfl, if_pos (by decide), if_pos (by omega), eE, show s.extract 0 1 = str [c] from extract_one (i := 0) hd]
            refine .inl ⟨3, [c], l, rfl, Nat.le_refl _, fun acc => ?_⟩
            rw [hsc, hout false false false false true false hf na hsg hw, if_neg (by decide), if_neg (by decide), if_neg c34, if_neg c40, if_pos rfl, if_neg (by decide)]
          | false =>
            rw [if_neg (c := false = true) (by decide)]
            obtain ⟨k, rfl⟩ : ∃ j, k = j + 1 := ⟨k - 1, by omega⟩
            cases ha : atomic c with
            | false =>
              rw [lex_next.l0, if_pos (by omega), if_pos (by decide), hbt, atomic_is, ha, Option.bind_some, if_neg (by decide), if_pos rfl]
              refine .inr ⟨0, [], _, 3, by decide, rfl, fun acc => ?_⟩
              rw [hsc, hout false false false false false false hf ha hsg hw, if_neg (by decide), if_neg (by decide), if_neg c34, if_neg c40, if_neg (by decide), if_neg (by decide)]
            | true =>
              rw [lex_next.l0, if_pos (by omega), if_pos (by decide), hbt, atomic_is, ha, Option.bind_some, if_pos rfl, wrap_01]
              obtain ⟨j, q1, q2, q3, q4⟩ := lexatom_l0 s hs l.length k 1 l (Nat.le_refl _) (by omega) hd1 (by rw [hb]; simp) (by decide)
              rw [q3]
              refine .inl ⟨1, _, _, rfl, ?_, fun acc => ?_⟩
              · rw [hb]
                simp only [List.length_drop, List.length_cons]
                omega
              · rw [hsc, hout false true false false _ _ hf ha rfl rfl, if_neg (by decide), if_pos rfl, if_neg (by decide), ← q4 acc, hb]
                rfl
def tok142 (t : Tok) : S181 := ⟨t.1, str t.2⟩
theorem lexScan_l0 : ∀ (n k : Nat) (s : ByteArray) (acc : List Tok), s.size ≤ n → s.size ≤ 1000000 → 4 * n + 20 ≤ k → acc.length + s.size ≤ 1000000 →
    lex_Scan.l0 k s (acc.map tok142) = some ((scanL acc .out (bs s)).1.map tok142, (scanL acc .out (bs s)).2)
  | n, k, s, acc, hn, hs, hk, ha => by
    obtain ⟨k, rfl⟩ : ∃ j, k = j + 1 := ⟨k - 1, by omega⟩
    have hlen := bs_length s
    rw [lex_Scan.l0, toList_bs]
    cases hb : bs s with
    | nil => rw [if_pos rfl]; rfl
    | cons c l =>
      rw [hb] at hlen
      simp only [List.length_cons] at hlen
      obtain ⟨n, rfl⟩ : ∃ j, n = j + 1 := ⟨n - 1, by omega⟩
      rw [if_neg (by simp)]
      rcases lexnext_is s hs c l hb k (by omega) with ⟨kd, t, r, h1, h2, h3⟩ | ⟨kd, t, r, e, h0, h1, h3⟩
      · rw [h1, Option.bind_some, if_pos rfl, h3]
        by_cases hkd : kd = 0
        · rw [if_pos hkd, if_pos hkd, lexScan_l0 n k (str r) acc (by rw [str_size]; omega) (by rw [str_size]; omega) (by omega) (by rw [str_size]; omega), bs_str]
        · rw [if_neg hkd, if_neg hkd, if_pos (by rw [List.length_map]; omega), show acc.map tok142 ++ [(⟨kd, str t⟩ : S181)] = (acc ++ [(kd, t)]).map tok142 by simp [tok142],
            lexScan_l0 n k (str r) (acc ++ [(kd, t)]) (by rw [str_size]; omega) (by rw [str_size]; omega) (by omega) (by rw [str_size]; simp; omega), bs_str]
      · rw [h1, Option.bind_some, if_neg h0, h3]
        rfl
theorem lexScan_is (s : ByteArray) (hs : s.size ≤ 1000000) (k : Nat) (hk : 4 * s.size + 20 ≤ k) : lex_Scan.f k s = some ((scanL [] .out (bs s)).1.map tok142, (scanL [] .out (bs s)).2) := by
  have := lexScan_l0 s.size k s [] (Nat.le_refl _) hs hk (by simpa using hs)
  unfold lex_Scan.f
  exact this
end Go.Proofs.YtgaaogijfikfeaaDoor.Pl
set_option linter.unusedVariables false
set_option linter.unusedSimpArgs false
namespace Go.Proofs.YtgaaogijfikfeaaDoor.Pl
open Go.RowKit Go.Proofs.YtgaaogijfikfeaaDoorW.PrintWords Go.Proofs.YtgaaogijfikfeaaDoor.Fn

/-! The reference's glyph functions, as the plain ones. -/
theorem fold_rounds (s : ByteArray) (hs : s.size ≤ 1000000000) : ∀ (l : Bytes) (k i : Nat) (acc : Bytes), (bs s).drop i = l → l.length < k → acc.length ≤ i →
    bulletinref06_Fold.l0 k s (str acc) (i : Int) = some (str (acc ++ fold l)) := by
  intro l
  induction l with
  | nil =>
    intro k i acc h hk ha
    obtain ⟨k, rfl⟩ : ∃ m, k = m + 1 := ⟨k - 1, by omega⟩
    have := drop_nil h
    rw [bs_length] at this
    simp only [bulletinref06_Fold.l0]
    rw [if_neg (by omega)]
    simp [fold]
  | cons c r ih =>
    intro k i acc h hk ha
    obtain ⟨k, rfl⟩ : ∃ m, k = m + 1 := ⟨k - 1, by omega⟩
    obtain ⟨h1, h2, h3, h4⟩ := drop_cons h
    rw [bs_length] at h1
    have hc := byte_lt c
    have hx := extract_one h
    have hw := wrap_succ i (by omega)
    simp only [bulletinref06_Fold.l0]
    rw [if_pos (by omega), if_pos (by omega), bt_drop h, hw]
    have hn := ih k (i + 1) (acc ++ [foldB c]) h3 (by simpa using hk) (by simp; omega)
    have hz : (str acc).size = acc.length := str_size acc
    have hfin : some (str (acc ++ [foldB c] ++ fold r)) = some (str (acc ++ fold (c :: r))) := by simp [fold]
    by_cases a : (c.toNat : Int) ≥ 65
    · rw [if_pos a]
      by_cases b : (c.toNat : Int) ≤ 90
      · rw [if_pos b]
        have e : strOfNums [((c.toNat : Int) + 32) % 256] = str [foldB c] := by
          rw [nums_one]
          congr 1
          have hf := foldB_up c ⟨by omega, b⟩
          have : (((c.toNat : Int) + 32) % 256).toNat = (foldB c).toNat := by omega
          rw [this, ofNat_toNat]
        simp only [Option.bind_some]
        rw [e, str_app, if_pos (by rw [hz, str_size]; simp; omega), hn, hfin]
      · rw [if_neg b]
        have hf : foldB c = c := by unfold foldB; rw [if_neg (by omega)]
        rw [if_pos (by omega), if_pos (by omega), Int.toNat_natCast, Int.toNat_natCast, hx, str_app, if_pos (by rw [hz, str_size]; simp; omega)]
        rw [hf] at hn hfin
        rw [hn, hfin]
    · rw [if_neg a]
      have hf : foldB c = c := by unfold foldB; rw [if_neg (by omega)]
      rw [if_pos (by omega), if_pos (by omega), Int.toNat_natCast, Int.toNat_natCast, hx, str_app, if_pos (by rw [hz, str_size]; simp; omega)]
      rw [hf] at hn hfin
      rw [hn, hfin]
theorem ref_fold (s : ByteArray) (hs : s.size ≤ 1000000000) (k : Nat) (hk : s.size < k) : bulletinref06_Fold.f k s = some (str (fold (bs s))) := by
  unfold bulletinref06_Fold.f
  have := fold_rounds s hs (bs s) k 0 [] (by simp) (by rw [bs_length]; exact hk) (by simp)
  simpa [str] using this

end Go.Proofs.YtgaaogijfikfeaaDoor.Pl
namespace Go.Proofs.YtgaaogijfikfeaaDoor.Fn
open Go.RowKit Go.Proofs.YtgaaogijfikfeaaDoorW.PrintWords Go.Proofs.YtgaaogijfikfeaaDoorW.PrintLast Go.Proofs.YtgaaogijfikfeaaDoorW.PrintMore
attribute [local go_sem] max2_int min2_int max_two min_two max_three min_three max_four min_four
set_option linter.unusedVariables false
set_option linter.unusedSimpArgs false

/-! ### addr_Domain: function 51 -/
end Go.Proofs.YtgaaogijfikfeaaDoor.Fn
set_option linter.unusedVariables false
namespace Go.Proofs.YtgaaogijfikfeaaDoor.Pl
open Go.RowKit Go.Proofs.YtgaaogijfikfeaaDoorW.PrintWords Go.Proofs.YtgaaogijfikfeaaDoor.Fn

/-! The document's labels, domains, right addresses. -/
def labN (n : Int) : Prop := (97 ≤ n ∧ n ≤ 122) ∨ (65 ≤ n ∧ n ≤ 90) ∨ (48 ≤ n ∧ n ≤ 57) ∨ n = 45
instance (n : Int) : Decidable (labN n) := by unfold labN; infer_instance
end Go.Proofs.YtgaaogijfikfeaaDoor.Pl
namespace Go.Proofs.YtgaaogijfikfeaaDoor.Fn
open Go.RowKit Go.Proofs.YtgaaogijfikfeaaDoorW.PrintWords Go.Proofs.YtgaaogijfikfeaaDoorW.PrintLast Go.Proofs.YtgaaogijfikfeaaDoorW.PrintMore
attribute [local go_sem] max2_int min2_int max_two min_two max_three min_three max_four min_four
set_option linter.unusedVariables false
set_option linter.unusedSimpArgs false

attribute [local go_sem high] eqA181
/-! ### addr_is: function 207 -/
def addr_is.f (l0 : List (S181)) (a1 : ByteArray) : Option (Bool) := if (l0.length : Int) > 0 then (if 0 < (l0.length : Int) then (some (((rd_T181 l0 0).f0) == 3 && ((((rd_T181 l0 0).f1).toList) == a1.toList))) else (none)) else (some false)
end Go.Proofs.YtgaaogijfikfeaaDoor.Fn
namespace Go.Proofs.YtgaaogijfikfeaaDoor.Fn
open Go.RowKit Go.Proofs.YtgaaogijfikfeaaDoorW.PrintWords Go.Proofs.YtgaaogijfikfeaaDoorW.PrintLast Go.Proofs.YtgaaogijfikfeaaDoorW.PrintMore
attribute [local go_sem] max2_int min2_int max_two min_two max_three min_three max_four min_four
set_option linter.unusedVariables false
set_option linter.unusedSimpArgs false

/-! ### addr_joined: function 206 -/
mutual
def addr_joined.l0 : Nat → List (S181) → Bool → ByteArray → Option (ByteArray × (List (S181)) × Bool)
 | 0, _, _, _ => none
 | k + 1, x0, x1, x7 => if (x0.length : Int) = 0 then (addr_joined.j1 k x0 x1 x7 true) else (if 0 < (x0.length : Int) then (if ((rd_T181 x0 0).f0) = 3 then (addr_joined.j1 k x0 x1 x7 true) else (if x1 = true then (addr_joined.j1 k x0 x1 x7 (((rd_T181 x0 0).f0) != 1)) else (addr_joined.j1 k x0 x1 x7 false))) else (none))
def addr_joined.j1 : Nat → List (S181) → Bool → ByteArray → Bool → Option (ByteArray × (List (S181)) × Bool)
 | 0, _, _, _, _ => none
 | k + 1, x0, x1, x7, x27 => if x27 = true then (some ((⟨#[]⟩ : ByteArray), ([] : List (S181)), false)) else (if 0 < (x0.length : Int) then (if x7.size + ((rd_T181 x0 0).f1).size ≤ 9223372036854775807 then (if 1 ≤ (x0.length : Int) then ((some (x0.drop 1 : List (S181))).bind fun y186 => ((addr_is.f y186 (⟨#[46]⟩ : ByteArray)).bind fun t191 => (if t191 = true then (if (x7 ++ ((rd_T181 x0 0).f1)).size + 1 ≤ 9223372036854775807 then (if 1 ≤ (y186.length : Int) then (addr_joined.l0 k (y186.drop 1) x1 ((x7 ++ ((rd_T181 x0 0).f1)) ++ (⟨#[46]⟩ : ByteArray))) else (none)) else (none)) else (some (x7 ++ ((rd_T181 x0 0).f1), y186, true))))) else (none)) else (none)) else (none))
end
def addr_joined.f (k : Nat) (l0 : List (S181)) (a1 : Bool) : Option (ByteArray × (List (S181)) × Bool) := addr_joined.l0 k l0 a1 (⟨#[]⟩ : ByteArray)
end Go.Proofs.YtgaaogijfikfeaaDoor.Fn
namespace Go.Proofs.YtgaaogijfikfeaaDoor.Fn
open Go.RowKit Go.Proofs.YtgaaogijfikfeaaDoorW.PrintWords Go.Proofs.YtgaaogijfikfeaaDoorW.PrintLast Go.Proofs.YtgaaogijfikfeaaDoorW.PrintMore
attribute [local go_sem] max2_int min2_int max_two min_two max_three min_three max_four min_four
set_option linter.unusedVariables false
set_option linter.unusedSimpArgs false

/-! ### addr_Of: function 182 -/
mutual
def addr_Of.j0 : Nat → List (S181) → ByteArray → Bool → Option (ByteArray × ByteArray × Int)
 | 0, _, _, _ => none
 | k + 1, x0, x4, x21 => if x21 = true then (some ((⟨#[]⟩ : ByteArray), (⟨#[]⟩ : ByteArray), 130)) else (if 1 ≤ (x0.length : Int) then ((addr_joined.f k (x0.drop 1) true).bind fun bt209 => (if bt209.2.2 = true then (addr_Of.j1 k x4 bt209.1 (decide ((bt209.2.1.length : Int) > 0))) else (addr_Of.j1 k x4 bt209.1 true))) else (none))
def addr_Of.j1 : Nat → ByteArray → ByteArray → Bool → Option (ByteArray × ByteArray × Int)
 | 0, _, _, _ => none
 | k + 1, x4, x6, x36 => if x36 = true then (some ((⟨#[]⟩ : ByteArray), (⟨#[]⟩ : ByteArray), 130)) else ((glyph_Fold.f x6).bind fun t214 => ((addr_why.f k x4 t214).bind fun t216 => (if t216 = 0 then (some (x4, t214, 0)) else (some ((⟨#[]⟩ : ByteArray), (⟨#[]⟩ : ByteArray), t216)))))
end
end Go.Proofs.YtgaaogijfikfeaaDoor.Fn
namespace Go.Proofs.YtgaaogijfikfeaaDoor.Fn
open Go.RowKit Go.Proofs.YtgaaogijfikfeaaDoorW.PrintWords Go.Proofs.YtgaaogijfikfeaaDoorW.PrintLast Go.Proofs.YtgaaogijfikfeaaDoorW.PrintMore
attribute [local go_sem] max2_int min2_int max_two min_two max_three min_three max_four min_four
set_option linter.unusedVariables false
set_option linter.unusedSimpArgs false

/-! ### bulletinref13_Of: function 97 -/
mutual
def bulletinref13_Of.l0 : Nat → List (S160) → Int → Int → Option (ByteArray × ByteArray × Int)
 | 0, _, _, _ => none
 | k + 1, x0, x4, x5 => if x5 < (x0.length : Int) then (if 0 ≤ x5 then (if ((rd_T160 x0 x5).f0) = 3 then (if ((rd_T160 x0 x5).f1).toList = ([64] : List UInt8) then (if x4 < 0 then (bulletinref13_Of.l0 k x0 x5 (wrap64 (x5 + 1))) else (bulletinref13_Of.l0 k x0 x4 (wrap64 (x5 + 1)))) else (bulletinref13_Of.l0 k x0 x4 (wrap64 (x5 + 1)))) else (bulletinref13_Of.l0 k x0 x4 (wrap64 (x5 + 1)))) else (none)) else (if x4 < 0 then (some ((⟨#[]⟩ : ByteArray), (⟨#[]⟩ : ByteArray), 130)) else (bulletinref13_Of.l1 k x0 x4 0 (⟨#[]⟩ : ByteArray) (⟨#[]⟩ : ByteArray)))
def bulletinref13_Of.l1 : Nat → List (S160) → Int → Int → ByteArray → ByteArray → Option (ByteArray × ByteArray × Int)
 | 0, _, _, _, _, _ => none
 | k + 1, x0, x4, x7, x630000, x630001 => if x7 < (x0.length : Int) then (if 0 ≤ x7 then (if x7 > x4 then (bulletinref13_Of.j2 k x0 x4 x7 (wrap64 ((wrap64 (x7 - x4)) - 1)) x630000 x630001 ((rd_T160 x0 x7).f0) ((rd_T160 x0 x7).f1)) else (bulletinref13_Of.j2 k x0 x4 x7 x7 x630000 x630001 ((rd_T160 x0 x7).f0) ((rd_T160 x0 x7).f1))) else (none)) else (if (Int.tmod x4 2) = 0 then (bulletinref13_Of.j5 k true x630000 x630001) else (bulletinref13_Of.j5 k ((Int.tmod (wrap64 ((wrap64 ((x0.length : Int) - x4)) - 1)) 2) == 0) x630000 x630001))
def bulletinref13_Of.j2 : Nat → List (S160) → Int → Int → Int → ByteArray → ByteArray → Int → ByteArray → Option (ByteArray × ByteArray × Int)
 | 0, _, _, _, _, _, _, _, _ => none
 | k + 1, x0, x4, x7, x9, x630000, x630001, x632000, x632001 => if x7 = x4 then (bulletinref13_Of.j3 k x0 x4 x7 x9 false x630000 x630001 x632000 x632001) else (if (Int.tmod x9 2) = 1 then (if x632000 = 3 then (bulletinref13_Of.j3 k x0 x4 x7 x9 (x632001.toList != ([46] : List UInt8)) x630000 x630001 x632000 x632001) else (bulletinref13_Of.j3 k x0 x4 x7 x9 true x630000 x630001 x632000 x632001)) else (bulletinref13_Of.j3 k x0 x4 x7 x9 false x630000 x630001 x632000 x632001))
def bulletinref13_Of.j3 : Nat → List (S160) → Int → Int → Int → Bool → ByteArray → ByteArray → Int → ByteArray → Option (ByteArray × ByteArray × Int)
 | 0, _, _, _, _, _, _, _, _, _ => none
 | k + 1, x0, x4, x7, x9, x75, x630000, x630001, x632000, x632001 => if x75 = true then (some ((⟨#[]⟩ : ByteArray), (⟨#[]⟩ : ByteArray), 130)) else (if x7 = x4 then (bulletinref13_Of.j4 k x0 x4 x7 false x630000 x630001 x632000 x632001) else (if (Int.tmod x9 2) = 0 then (if x632000 = 3 then (bulletinref13_Of.j4 k x0 x4 x7 true x630000 x630001 x632000 x632001) else (if x7 > x4 then (bulletinref13_Of.j4 k x0 x4 x7 (x632000 != 1) x630000 x630001 x632000 x632001) else (bulletinref13_Of.j4 k x0 x4 x7 false x630000 x630001 x632000 x632001))) else (bulletinref13_Of.j4 k x0 x4 x7 false x630000 x630001 x632000 x632001)))
def bulletinref13_Of.j4 : Nat → List (S160) → Int → Int → Bool → ByteArray → ByteArray → Int → ByteArray → Option (ByteArray × ByteArray × Int)
 | 0, _, _, _, _, _, _, _, _ => none
 | k + 1, x0, x4, x7, x99, x630000, x630001, x632000, x632001 => if x99 = true then (some ((⟨#[]⟩ : ByteArray), (⟨#[]⟩ : ByteArray), 130)) else (if x7 < x4 then (if x630000.size + x632001.size ≤ 9223372036854775807 then (if x7 > x4 then (if x630001.size + x632001.size ≤ 9223372036854775807 then (bulletinref13_Of.l1 k x0 x4 (wrap64 (x7 + 1)) (x630000 ++ x632001) (x630001 ++ x632001)) else (none)) else (bulletinref13_Of.l1 k x0 x4 (wrap64 (x7 + 1)) (x630000 ++ x632001) x630001)) else (none)) else (if x7 > x4 then (if x630001.size + x632001.size ≤ 9223372036854775807 then (bulletinref13_Of.l1 k x0 x4 (wrap64 (x7 + 1)) x630000 (x630001 ++ x632001)) else (none)) else (bulletinref13_Of.l1 k x0 x4 (wrap64 (x7 + 1)) x630000 x630001)))
def bulletinref13_Of.j5 : Nat → Bool → ByteArray → ByteArray → Option (ByteArray × ByteArray × Int)
 | 0, _, _, _ => none
 | k + 1, x130, x630000, x630001 => if x130 = true then (some ((⟨#[]⟩ : ByteArray), (⟨#[]⟩ : ByteArray), 130)) else ((bulletinref06_Fold.f k x630001).bind fun t632 => ((bulletinref13_Why.f k x630000 t632).bind fun t633 => (if t633 = 0 then (some (x630000, t632, 0)) else (some ((⟨#[]⟩ : ByteArray), (⟨#[]⟩ : ByteArray), t633)))))
end
end Go.Proofs.YtgaaogijfikfeaaDoor.Fn
set_option linter.unusedVariables false
namespace Go.Proofs.YtgaaogijfikfeaaDoor.Pl
open Go.RowKit Go.Proofs.YtgaaogijfikfeaaDoorW.PrintWords Go.Proofs.YtgaaogijfikfeaaDoor.Fn

/-! Layer 13: the address that tokens are. -/
def isT (t : Tok) (s : Bytes) : Bool := t.1 == 3 && t.2 == s
def cat (l : List Tok) : Bytes := l.flatMap (·.2)
/-! the program's: words joined by dots, as long as they go on -/
end Go.Proofs.YtgaaogijfikfeaaDoor.Pl
namespace Go.Proofs.YtgaaogijfikfeaaDoor.Fn
open Go.RowKit Go.Proofs.YtgaaogijfikfeaaDoorW.PrintWords Go.Proofs.YtgaaogijfikfeaaDoorW.PrintLast Go.Proofs.YtgaaogijfikfeaaDoorW.PrintMore
attribute [local go_sem] max2_int min2_int max_two min_two max_three min_three max_four min_four
set_option linter.unusedVariables false
set_option linter.unusedSimpArgs false

/-! ### addr_Parse: function 146 -/
end Go.Proofs.YtgaaogijfikfeaaDoor.Fn
namespace Go.Proofs.YtgaaogijfikfeaaDoor.Fn
open Go.RowKit Go.Proofs.YtgaaogijfikfeaaDoorW.PrintWords Go.Proofs.YtgaaogijfikfeaaDoorW.PrintLast Go.Proofs.YtgaaogijfikfeaaDoorW.PrintMore
attribute [local go_sem] max2_int min2_int max_two min_two max_three min_three max_four min_four
set_option linter.unusedVariables false
set_option linter.unusedSimpArgs false

/-! ### addr_Strict: function 101 -/
end Go.Proofs.YtgaaogijfikfeaaDoor.Fn
set_option linter.unusedVariables false
set_option linter.unusedSimpArgs false
namespace Go.Proofs.YtgaaogijfikfeaaDoor.Pl
open Go.RowKit Go.Proofs.YtgaaogijfikfeaaDoorW.PrintWords Go.Proofs.YtgaaogijfikfeaaDoor.Fn

/-! how many tokens there are, and how long they are -/
def pend : Sc → Nat
  | .atom _ => 1
  | _ => 0
theorem cat_app (a b : List Tok) : cat (a ++ b) = cat a ++ cat b := by simp [cat]
theorem tail_len {c : UInt8} {l : Bytes} (h : foldAt (c :: l) = true) : l.tail.length + 1 = l.length := by
  cases l with
  | nil => cases h
  | cons b l => simp
theorem stepOut_bound {acc : List Tok} {c : UInt8} {l : Bytes} {a : List Tok} {t : Sc} {r : Bytes} (h : stepOut acc c l = .inl (a, t, r)) :
    a.length + pend t + r.length ≤ acc.length + (l.length + 1) ∧ (cat a).length + (wOf t).length + r.length ≤ (cat acc).length + (l.length + 1) := by
  unfold stepOut at h
  by_cases c1 : foldAt (c :: l) = true
  · rw [if_pos c1] at h
    have := tail_len c1
    simp only [Sum.inl.injEq, Prod.mk.injEq] at h
    obtain ⟨rfl, rfl, rfl⟩ := h
    simp only [pend, wOf, List.length_nil]
    omega
  · rw [if_neg c1] at h
    repeat' split at h
    all_goals (first | (cases h; done) | (simp only [Sum.inl.injEq, Prod.mk.injEq] at h; obtain ⟨rfl, rfl, rfl⟩ := h; simp only [pend, wOf, cat_app, List.length_append, List.length_nil, List.length_cons]; simp [cat]; try omega))
theorem step_bound {acc : List Tok} {st : Sc} {c : UInt8} {l : Bytes} {a : List Tok} {t : Sc} {r : Bytes} (h : step acc st c l = .inl (a, t, r)) :
    a.length + pend t + r.length ≤ acc.length + pend st + (l.length + 1) ∧ (cat a).length + (wOf t).length + r.length ≤ (cat acc).length + (wOf st).length + (l.length + 1) := by
  cases st with
  | out =>
    have := stepOut_bound h
    rw [show pend .out = 0 from rfl, show wOf .out = [] from rfl, List.length_nil]
    omega
  | atom w =>
    unfold step at h
    simp only [] at h
    by_cases ha : atomic c = true
    · rw [if_pos ha] at h
      simp only [Sum.inl.injEq, Prod.mk.injEq] at h
      obtain ⟨rfl, rfl, rfl⟩ := h
      simp only [pend, wOf, List.length_append, List.length_cons, List.length_nil]
      omega
    · rw [if_neg ha] at h
      have := stepOut_bound h
      rw [cat_app] at this
      rw [show pend (.atom w) = 1 from rfl, show wOf (.atom w) = w from rfl]
      simp only [List.length_append, List.length_cons, List.length_nil] at this ⊢
      have e : (cat [((1 : Int), w)]).length = w.length := by simp [cat]
      omega
  | quot w b =>
    cases b with
    | true =>
      unfold step at h
      simp only [] at h
      repeat' split at h
      all_goals (first | (cases h; done) | (simp only [Sum.inl.injEq, Prod.mk.injEq] at h; obtain ⟨rfl, rfl, rfl⟩ := h; simp only [pend, wOf, List.length_append, List.length_cons, List.length_nil]; omega))
    | false =>
      unfold step at h
      simp only [] at h
      by_cases c1 : foldAt (c :: l) = true
      · rw [if_pos c1] at h
        have := tail_len c1
        simp only [Sum.inl.injEq, Prod.mk.injEq] at h
        obtain ⟨rfl, rfl, rfl⟩ := h
        simp only [pend, wOf]
        omega
      · rw [if_neg c1] at h
        have e : (cat [((2 : Int), w)]).length = w.length := by simp [cat]
        repeat' split at h
        all_goals (first | (cases h; done) | (simp only [Sum.inl.injEq, Prod.mk.injEq] at h; obtain ⟨rfl, rfl, rfl⟩ := h; simp only [pend, wOf, cat_app, List.length_append, List.length_cons, List.length_nil]; omega))
  | comm d b =>
    cases b with
    | true =>
      unfold step at h
      simp only [] at h
      repeat' split at h
      all_goals (first | (cases h; done) | (simp only [Sum.inl.injEq, Prod.mk.injEq] at h; obtain ⟨rfl, rfl, rfl⟩ := h; simp only [pend, wOf, List.length_append, List.length_cons, List.length_nil]; omega))
    | false =>
      unfold step commAfter at h
      simp only [] at h
      by_cases c1 : foldAt (c :: l) = true
      · rw [if_pos c1] at h
        have := tail_len c1
        simp only [Sum.inl.injEq, Prod.mk.injEq] at h
        obtain ⟨rfl, rfl, rfl⟩ := h
        simp only [pend, wOf]
        omega
      · rw [if_neg c1] at h
        generalize (if c = 40 then d + 1 else if c = 41 then d - 1 else d) = d' at h
        repeat' split at h
        all_goals (first | (cases h; done) | (simp only [Sum.inl.injEq, Prod.mk.injEq] at h; obtain ⟨rfl, rfl, rfl⟩ := h; simp only [pend, wOf, List.length_nil]; omega))
theorem scan_bound : ∀ (k : Nat) (acc : List Tok) (st : Sc) (l : Bytes), l.length ≤ k →
    (scan k acc st l).1.length ≤ acc.length + pend st + l.length ∧ (cat (scan k acc st l).1).length ≤ (cat acc).length + (wOf st).length + l.length
  | k, acc, st, [], _ => by
    have e : scan k acc st [] = endOf acc st := by cases k <;> rfl
    rw [e]
    cases st <;> simp [endOf, pend, wOf, cat]
  | 0, acc, st, c :: l, h => by simp at h
  | k + 1, acc, st, c :: l, h => by
    rw [scan]
    simp only [List.length_cons] at h
    cases hs : step acc st c l with
    | inr e => simp [cat]
    | inl x =>
      obtain ⟨a, t, r⟩ := x
      have h1 := step_bound hs
      have h2 := step_le hs
      have ih := scan_bound k a t r (by omega)
      simp only [List.length_cons]
      omega
theorem scanL_bound (l : Bytes) : (scanL [] .out l).1.length ≤ l.length ∧ (cat (scanL [] .out l).1).length ≤ l.length := by
  have := scan_bound l.length [] .out l (Nat.le_refl _)
  unfold scanL
  simp only [List.length_nil, pend, wOf, cat, List.flatMap_nil] at this ⊢
  omega
end Go.Proofs.YtgaaogijfikfeaaDoor.Pl
set_option linter.unusedVariables false
set_option linter.unusedSimpArgs false
namespace Go.Proofs.YtgaaogijfikfeaaDoor.Pl
open Go.RowKit Go.Proofs.YtgaaogijfikfeaaDoorW.PrintWords Go.Proofs.YtgaaogijfikfeaaDoor.Fn

end Go.Proofs.YtgaaogijfikfeaaDoor.Pl
set_option linter.unusedVariables false
set_option linter.unusedSimpArgs false
namespace Go.Proofs.YtgaaogijfikfeaaDoor.Pl
open Go.RowKit Go.Proofs.YtgaaogijfikfeaaDoorW.PrintWords Go.Proofs.YtgaaogijfikfeaaDoor.Fn

/-! What is written is read again. -/
def stops (l : Bytes) : Prop := ∀ c r, l = c :: r → atomic c = false
theorem scan_atomic (w : Bytes) (acc : List Tok) (l : Bytes) (hl : stops l) : ∀ v : Bytes, v.all atomic = true → scanL acc (.atom w) (v ++ l) = scanL (acc ++ [(1, w ++ v)]) .out l
  | [], _ => by
    rw [List.nil_append, List.append_nil]
    cases l with
    | nil => rfl
    | cons c r =>
      rw [scanL_cons, scanL_cons]
      unfold step
      simp only []
      rw [hl c r rfl, if_neg (by decide)]
  | c :: v, hv => by
    simp only [List.all_cons, Bool.and_eq_true] at hv
    rw [List.cons_append, scanL_cons]
    unfold step
    simp only []
    rw [hv.1, if_pos rfl]
    simp only []
    rw [scan_atomic (w ++ [c]) acc l hl v hv.2]
    simp
theorem scan_word (acc : List Tok) (w l : Bytes) (hw : atomL w = true) (hl : stops l) : scanL acc .out (w ++ l) = scanL (acc ++ [(1, w)]) .out l := by
  unfold atomL at hw
  rw [Bool.and_eq_true] at hw
  cases w with
  | nil => simp at hw
  | cons c v =>
    have hv := hw.1
    simp only [List.all_cons, Bool.and_eq_true] at hv
    rw [List.cons_append, scanL_cons]
    have hs : step acc .out c (v ++ l) = .inl (acc, .atom [c], v ++ l) := by
      unfold step stepOut
      simp only []
      rw [fold_not (atomic_apart c hv.1).1, hv.1, if_neg (by decide), if_pos rfl]
    rw [hs]
    simp only []
    rw [scan_atomic [c] acc l hl v hv.2]
    rfl
theorem stops_nil : stops [] := fun c r e => by cases e
end Go.Proofs.YtgaaogijfikfeaaDoor.Pl
namespace Go.Proofs.YtgaaogijfikfeaaDoor.Fn
open Go.RowKit Go.Proofs.YtgaaogijfikfeaaDoorW.PrintWords Go.Proofs.YtgaaogijfikfeaaDoorW.PrintLast Go.Proofs.YtgaaogijfikfeaaDoorW.PrintMore
attribute [local go_sem] max2_int min2_int max_two min_two max_three min_three max_four min_four
set_option linter.unusedVariables false
set_option linter.unusedSimpArgs false

/-! ### bulletinbook_SameTexts: function 27 -/
end Go.Proofs.YtgaaogijfikfeaaDoor.Fn
set_option linter.unusedVariables false
namespace Go.Proofs.YtgaaogijfikfeaaDoor.Pl
open Go.RowKit Go.Proofs.YtgaaogijfikfeaaDoorW.PrintWords Go.Proofs.YtgaaogijfikfeaaDoor.Fn
set_option maxRecDepth 100000 in
theorem works20_at : bulletinlaw20_works.f 300 = some true := by decide +kernel
theorem works20 (k : Nat) (hk : 300 ≤ k) : bulletinlaw20_works.f k = some true := mono_up bulletinlaw20_works.mono works20_at k hk
end Go.Proofs.YtgaaogijfikfeaaDoor.Pl
set_option linter.unusedVariables false
set_option linter.unusedSimpArgs false
namespace Go.Proofs.YtgaaogijfikfeaaDoor.Pl
open Go.RowKit Go.Proofs.YtgaaogijfikfeaaDoorW.PrintWords Go.Proofs.YtgaaogijfikfeaaDoor.Fn

/-! Layer 20: a body's type, over lists of bytes; the program's computes it. -/
def pcs (acc : List Bytes) (w : Bytes) : List Tok → List Bytes
  | [] => acc ++ [w]
  | t :: l => if isT t [59] = true then pcs (acc ++ [w]) [] l else pcs acc (w ++ t.2) l
def cutL (c : UInt8) (l : Bytes) : Bytes × Bytes × Bool := if Lib.indexByte l c < 0 then (l, [], false) else (l.take (Lib.indexByte l c).toNat, l.drop ((Lib.indexByte l c).toNat + 1), true)
theorem cut1_is (c : UInt8) (s : ByteArray) (hs : s.size ≤ 1000000000) : strings_Cut.f s ⟨#[c]⟩ = some (str (cutL c (bs s)).1, str (cutL c (bs s)).2.1, (cutL c (bs s)).2.2) := by
  unfold strings_Cut.f
  rw [if_pos (by omega)]
  have e : Lib.cut s.data.toList [c] = cutL c (bs s) := by
    unfold Lib.cut cutL
    rw [Lib.index_one]
    show (if 0 ≤ Lib.indexByte (bs s) c then _ else _) = _
    by_cases h : Lib.indexByte (bs s) c < 0
    · rw [if_neg (by omega), if_pos h]; rfl
    · rw [if_pos (by omega), if_neg h]; rfl
  show some (str (Lib.cut s.data.toList [c]).1, str (Lib.cut s.data.toList [c]).2.1, (Lib.cut s.data.toList [c]).2.2) = _
  rw [e]
def hasB (c : UInt8) (l : Bytes) : Bool := decide (0 ≤ Lib.indexByte l c)
theorem contains1_is (c : UInt8) (s : ByteArray) (hs : s.size ≤ 1000000000) : strings_Contains.f s ⟨#[c]⟩ = some (hasB c (bs s)) := by
  unfold strings_Contains.f
  rw [if_pos (by omega)]
  show some (decide (0 ≤ Lib.index s.data.toList [c])) = _
  rw [Lib.index_one]
  rfl
def kindL (p : Bytes) : Bool := (cutL 47 p).2.2 && (!(cutL 47 p).1.isEmpty && (!(cutL 47 p).2.1.isEmpty && (!hasB 47 (cutL 47 p).2.1 && atomL p)))
def paramL (p : Bytes) : Option (Bytes × Bytes) := if (cutL 61 p).2.2 = true then (if atomL (cutL 61 p).1 = true then some (fold (cutL 61 p).1, (cutL 61 p).2.1) else none) else none
def paramsL : List Bytes → Option (List (Bytes × Bytes))
  | [] => some []
  | p :: l => (paramL p).bind fun x => (paramsL l).bind fun r => some (x :: r)
def typeL : List Bytes → Option (Bytes × List (Bytes × Bytes))
  | [] => some ([], [])
  | p :: l => if kindL p = true then (paramsL l).bind fun r => some (fold p, r) else none
def readTypeL (s : Bytes) : Option (Bytes × List (Bytes × Bytes)) := if (scanL [] .out s).2 = 0 then typeL (pcs [] [] (scanL [] .out s).1) else none
def par158 (x : Bytes × Bytes) : S158 := ⟨str x.1, str x.2⟩
def resP : Option (Bytes × List (Bytes × Bytes)) → ByteArray × List S158 × Int
  | none => (str [], [], 200)
  | some r => (str r.1, r.2.map par158, 0)
theorem cutL_len (c : UInt8) (l : Bytes) : (cutL c l).1.length ≤ l.length ∧ (cutL c l).2.1.length ≤ l.length := by
  unfold cutL
  split
  · simp
  · simp only [List.length_take, List.length_drop]; omega
theorem isAtom_L (s : ByteArray) : isAtom s = atomL (bs s) := rfl
theorem mimekind_is (s : ByteArray) (hs : s.size ≤ 1000000) (k : Nat) (hk : s.size + 1 ≤ k) : mime_kind.f k s = some (kindL (bs s)) := by
  have hl := cutL_len 47 (bs s)
  rw [bs_length] at hl
  unfold mime_kind.f
  rw [cut1_is 47 s (by omega), Option.bind_some]
  unfold kindL
  simp only []
  rw [toList_str, toList_str]
  cases h1 : (cutL 47 (bs s)).2.2 with
  | false => rfl
  | true =>
    rw [if_pos rfl]
    cases h2 : (cutL 47 (bs s)).1 with
    | nil => rfl
    | cons a l =>
      rw [if_neg (by simp)]
      cases h3 : (cutL 47 (bs s)).2.1 with
      | nil => rfl
      | cons b m =>
        rw [if_neg (by simp), ← h3, contains1_is 47 _ (by rw [str_size]; omega), Option.bind_some, bs_str]
        cases h4 : hasB 47 (cutL 47 (bs s)).2.1 with
        | true => rw [if_pos rfl, h3]; rfl
        | false => rw [if_neg (by decide), lexIsAtom_is s (by omega) k hk, isAtom_L, h3]; rfl
theorem rd181_drop {l : List Tok} {i : Nat} {t : Tok} {r : List Tok} (h : l.drop i = t :: r) : rd_T181 (l.map tok142) (i : Int) = tok142 t := by
  have h1 : l[i]? = some t := by
    have := congrArg List.head? h
    rw [List.head?_drop] at this
    exact this
  unfold rd_T181
  rw [List.getD_eq_getElem?_getD, List.getElem?_map]
  simp [h1]
theorem pieces_l0 (T : List Tok) (hT : T.length ≤ 1000000) : ∀ (r : List Tok) (i k : Nat) (acc : List Bytes) (w : Bytes), T.drop i = r → r.length < k → acc.length ≤ i → w.length + (cat r).length ≤ 1000000 →
    mime_pieces.l0 k ((acc ++ [w]).map str) (T.map tok142) (T.length : Int) (i : Int) = some ((pcs acc w r).map str)
  | [], i, k, acc, w, hd, hk, ha, hw => by
    obtain ⟨k, rfl⟩ : ∃ j, k = j + 1 := ⟨k - 1, by omega⟩
    have : T.length ≤ i := by
      have := congrArg List.length hd
      rw [List.length_drop, List.length_nil] at this; omega
    rw [mime_pieces.l0, if_neg (by omega)]
    rfl
  | t :: r, i, k, acc, w, hd, hk, ha, hw => by
    obtain ⟨k, rfl⟩ : ∃ j, k = j + 1 := ⟨k - 1, by omega⟩
    obtain ⟨h1, h2⟩ := dropS_lt hd
    simp only [List.length_cons] at hk
    have hc : (cat (t :: r)).length = t.2.length + (cat r).length := by simp [cat]
    rw [mime_pieces.l0, if_pos (by omega), if_pos (by omega), if_pos (by rw [List.length_map]; omega), rd181_drop hd]
    have hcond : ((tok142 t).f0 == 3 && (tok142 t).f1.toList == ([59] : List UInt8)) = isT t [59] := by
      show (t.1 == 3 && (str t.2).toList == ([59] : List UInt8)) = _
      rw [toList_str]; rfl
    rw [hcond, pcs]
    cases hq : isT t [59] with
    | true =>
      rw [if_pos rfl, if_pos rfl, if_pos (by simp; omega), wrap_succ i (by omega)]
      rw [show (acc ++ [w]).map str ++ [(⟨#[]⟩ : ByteArray)] = ((acc ++ [w]) ++ [[]]).map str by simp; rfl]
      exact pieces_l0 T hT r (i + 1) k (acc ++ [w]) [] h2 (by omega) (by simp; omega) (by simp only [List.length_nil]; omega)
    | false =>
      rw [if_neg (show ¬ (false = true) by decide), if_neg (show ¬ (false = true) by decide)]
      have hlen : (((acc ++ [w]).map str).length : Int) - 1 = (acc.length : Int) := by simp
      have hw1 : wrap64 ((((acc ++ [w]).map str).length : Int) - 1) = (acc.length : Int) := by rw [hlen, wrap_id (by omega) (by omega)]
      have hrd : rdOf ByteArray.empty ((acc ++ [w]).map str) (acc.length : Int) = str w := rdS_drop (r := []) (by simp)
      rw [hw1, hrd, if_pos (by omega), if_pos (by simp only [List.length_map, List.length_append, List.length_cons, List.length_nil]; omega), if_pos (by rw [str_size]; show w.length + (str t.2).size ≤ _; rw [str_size]; omega), wrap_succ i (by omega)]
      rw [show (tok142 t).f1 = str t.2 from rfl, str_app, Int.toNat_natCast]
      rw [show ((acc ++ [w]).map str).set acc.length (str (w ++ t.2)) = (acc ++ [w ++ t.2]).map str by simp [List.set_append]]
      exact pieces_l0 T hT r (i + 1) k acc (w ++ t.2) h2 (by omega) (by omega) (by rw [List.length_append]; omega)
theorem pieces_is (T : List Tok) (hT : T.length ≤ 1000000) (hc : (cat T).length ≤ 1000000) (k : Nat) (hk : T.length < k) : mime_pieces.f k (T.map tok142) = some ((pcs [] [] T).map str) := by
  have := pieces_l0 T hT T 0 k [] [] (by simp) hk (by simp) (by simp only [List.length_nil]; omega)
  unfold mime_pieces.f
  rw [List.length_map]
  exact this
theorem pcs_bound : ∀ (T : List Tok) (acc : List Bytes) (w : Bytes) (m : Nat), w.length + (cat T).length ≤ m → (∀ x ∈ acc, x.length ≤ m) → (∀ x ∈ pcs acc w T, x.length ≤ m) ∧ (pcs acc w T).length ≤ acc.length + T.length + 1
  | [], acc, w, m, h, ha => by
    rw [pcs]
    refine ⟨fun x hx => ?_, by simp⟩
    rcases List.mem_append.1 hx with h1 | h1
    · exact ha x h1
    · rw [List.mem_singleton.1 h1]; omega
  | t :: T, acc, w, m, h, ha => by
    have hc : (cat (t :: T)).length = t.2.length + (cat T).length := by simp [cat]
    rw [pcs]
    split
    · have := pcs_bound T (acc ++ [w]) [] m (by simp only [List.length_nil]; omega) (fun x hx => by
        rcases List.mem_append.1 hx with h1 | h1
        · exact ha x h1
        · rw [List.mem_singleton.1 h1]; omega)
      refine ⟨this.1, Nat.le_trans this.2 ?_⟩
      simp only [List.length_append, List.length_cons, List.length_nil]; omega
    · have := pcs_bound T acc (w ++ t.2) m (by rw [List.length_append]; omega) ha
      refine ⟨this.1, Nat.le_trans this.2 ?_⟩
      simp only [List.length_cons]; omega
theorem readT_l0 (P : List Bytes) (hP : P.length ≤ 1000000) (hx : ∀ x ∈ P, x.length ≤ 1000000) (d : Bytes) : ∀ (r : List Bytes) (i k : Nat) (out : List (Bytes × Bytes)), P.drop (i + 1) = r → r.length + 1000100 ≤ k → out.length ≤ i →
    mime_ReadType.l0 k (P.map str) (P.length : Int) ((i + 1 : Nat) : Int) (str d) (out.map par158) = some (resP ((paramsL r).bind fun q => some (d, out ++ q)))
  | [], i, k, out, hd, hk, ho => by
    obtain ⟨k, rfl⟩ : ∃ j, k = j + 1 := ⟨k - 1, by omega⟩
    have : P.length ≤ i + 1 := by
      have := congrArg List.length hd
      rw [List.length_drop, List.length_nil] at this; omega
    rw [mime_ReadType.l0, if_neg (by omega)]
    simp [paramsL, resP]
  | p :: r, i, k, out, hd, hk, ho => by
    obtain ⟨k, rfl⟩ : ∃ j, k = j + 1 := ⟨k - 1, by omega⟩
    obtain ⟨h1, h2⟩ := dropS_lt hd
    simp only [List.length_cons] at hk
    have hp : p.length ≤ 1000000 := hx p (List.mem_of_mem_drop (by rw [hd]; simp))
    have hl := cutL_len 61 p
    rw [mime_ReadType.l0, if_pos (by omega), if_pos (by omega), if_pos (by rw [List.length_map]; omega), if_neg (by omega), rdS_drop hd, cut1_is 61 _ (by rw [str_size]; omega), Option.bind_some, bs_str, paramsL, paramL]
    cases h3 : (cutL 61 p).2.2 with
    | false => rw [if_neg (by decide), if_neg (by decide)]; rfl
    | true =>
      rw [if_pos rfl, if_pos rfl]
      rw [lexIsAtom_is _ (by rw [str_size]; omega) k (by rw [str_size]; omega), Option.bind_some, isAtom_L, bs_str]
      cases h4 : atomL (cutL 61 p).1 with
      | false => rw [if_neg (by decide), if_neg (by decide)]; rfl
      | true =>
        rw [if_pos rfl, if_pos rfl, glyphFold_is _ (by rw [str_size]; omega), Option.bind_some, bs_str, if_pos (by rw [List.length_map]; omega), wrap_succ (i + 1) (by omega)]
        have := readT_l0 P hP hx d r (i + 1) k (out ++ [(fold (cutL 61 p).1, (cutL 61 p).2.1)]) h2 (by omega) (by simp; omega)
        rw [List.map_append, List.map_cons, List.map_nil] at this
        refine Eq.trans this ?_
        cases paramsL r <;> simp
theorem readType_is (s : ByteArray) (hs : s.size ≤ 50000) (k : Nat) (hk : 3000000 ≤ k) : mime_ReadType.f k s = some (resP (readTypeL (bs s))) := by
  have hb := scanL_bound (bs s)
  rw [bs_length] at hb
  unfold mime_ReadType.f readTypeL
  rw [lexScan_is s (by omega) k (by omega), Option.bind_some]
  by_cases hz : (scanL [] .out (bs s)).2 = 0
  · rw [if_pos hz, if_pos hz, pieces_is _ (by omega) (by omega) k (by omega), Option.bind_some]
    have hq := pcs_bound (scanL [] .out (bs s)).1 [] [] 50000 (by simp only [List.length_nil]; omega) (by simp)
    generalize pcs [] [] (scanL [] .out (bs s)).1 = P at hq
    obtain ⟨k, rfl⟩ : ∃ j, k = j + 1 := ⟨k - 1, by omega⟩
    cases P with
    | nil => rfl
    | cons p r =>
      have hp := hq.1 p (by simp)
      simp only [List.length_cons, List.length_nil] at hq
      have hrd : rdOf ByteArray.empty ((p :: r).map str) 0 = str p := rfl
      rw [mime_ReadType.l0, if_pos (by simp only [List.length_map, List.length_cons]; omega), if_pos (by omega), if_pos (by simp only [List.length_map, List.length_cons]; omega), if_pos rfl, hrd, mimekind_is _ (by rw [str_size]; omega) k (by rw [str_size]; omega), Option.bind_some, bs_str, typeL]
      cases hK : kindL p with
      | false => rw [if_neg (by decide), if_neg (by decide)]; rfl
      | true =>
        rw [if_pos rfl, if_pos rfl, glyphFold_is _ (by rw [str_size]; omega), Option.bind_some, bs_str]
        have := readT_l0 (p :: r) (by simp only [List.length_cons]; omega) (fun x hx => by have := hq.1 x hx; omega) (fold p) r 0 k [] rfl (by omega) (by simp)
        rw [List.length_map, show wrap64 ((0 : Int) + 1) = ((0 + 1 : Nat) : Int) from wrap_succ 0 (by decide)]
        simp only [List.nil_append] at this
        exact this
  · rw [if_neg hz, if_neg hz]; rfl
/-! Words and values. -/
def wordV (v : Bytes) : Bytes := if (atomL v && (!hasB 61 v && (!hasB 47 v && !hasB 63 v))) = true then v else quote v
theorem wordV_len (v : Bytes) : (wordV v).length ≤ 2 * v.length + 2 := by
  unfold wordV
  split
  · omega
  · exact quote_length v
theorem mimeword_is (s : ByteArray) (hs : s.size ≤ 1000000) (k : Nat) (hk : 2 * s.size + 1 ≤ k) : mime_word.f k s = some (str (wordV (bs s))) := by
  unfold mime_word.f wordV
  rw [lexIsAtom_is s (by omega) k (by omega), Option.bind_some, isAtom_L, contains1_is 61 s (by omega), contains1_is 47 s (by omega), contains1_is 63 s (by omega), lexQuote_is s (by omega) k (by omega)]
  simp only [Option.bind_some]
  cases atomL (bs s) <;> cases hasB 61 (bs s) <;> cases hasB 47 (bs s) <;> cases hasB 63 (bs s) <;> simp [str_bs]
def par1 (x : Bytes × Bytes) : Bytes := 59 :: 32 :: (x.1 ++ (61 :: wordV x.2))
def typeText (d : Bytes) (l : List (Bytes × Bytes)) : Bytes := d ++ l.flatMap par1
theorem rd158_drop {l : List (Bytes × Bytes)} {i : Nat} {t : Bytes × Bytes} {r : List (Bytes × Bytes)} (h : l.drop i = t :: r) : rd_T158 (l.map par158) (i : Int) = par158 t := by
  have h1 : l[i]? = some t := by
    have := congrArg List.head? h
    rw [List.head?_drop] at this
    exact this
  unfold rd_T158
  rw [List.getD_eq_getElem?_getD, List.getElem?_map]
  simp [h1]
theorem par1_len (x : Bytes × Bytes) : (par1 x).length = x.1.length + (wordV x.2).length + 3 := by
  unfold par1
  simp only [List.length_cons, List.length_append]; omega
theorem text_l0 (T : List (Bytes × Bytes)) (hT : T.length ≤ 1000000) (hx : ∀ x ∈ T, x.1.length ≤ 1000000 ∧ x.2.length ≤ 1000000) : ∀ (r : List (Bytes × Bytes)) (i k : Nat) (s : Bytes), T.drop i = r → r.length + 2000010 ≤ k → s.length ≤ 1000000 + i * 4000000 →
    mime_Type_Text.l0 k (str s) (T.map par158) (T.length : Int) (i : Int) = some (str (s ++ r.flatMap par1))
  | [], i, k, s, hd, hk, hz => by
    obtain ⟨k, rfl⟩ : ∃ j, k = j + 1 := ⟨k - 1, by omega⟩
    have : T.length ≤ i := by
      have := congrArg List.length hd
      rw [List.length_drop, List.length_nil] at this; omega
    rw [mime_Type_Text.l0, if_neg (by omega)]
    simp
  | t :: r, i, k, s, hd, hk, hz => by
    obtain ⟨k, rfl⟩ : ∃ j, k = j + 1 := ⟨k - 1, by omega⟩
    obtain ⟨h1, h2⟩ := dropS_lt hd
    simp only [List.length_cons] at hk
    obtain ⟨hp1, hp2⟩ := hx t (List.mem_of_mem_drop (by rw [hd]; simp))
    have hwl := wordV_len t.2
    have hpl := par1_len t
    rw [mime_Type_Text.l0, if_pos (by omega), if_pos (by omega), if_pos (by rw [List.length_map]; omega), rd158_drop hd]
    have f0 : (par158 t).f0 = str t.1 := rfl
    have f1 : (par158 t).f1 = str t.2 := rfl
    have e1 : (⟨#[59, 32]⟩ : ByteArray) = str [59, 32] := rfl
    have e2 : (⟨#[61]⟩ : ByteArray) = str [61] := rfl
    rw [f0, f1, e1, e2, str_app, str_app, mimeword_is _ (by rw [str_size]; omega) k (by rw [str_size]; omega), bs_str, Option.bind_some, str_app]
    have ep : [59, 32] ++ t.1 ++ [61] ++ wordV t.2 = par1 t := by unfold par1; simp
    rw [ep, str_app, if_pos (by rw [str_size]; omega), if_pos (by rw [str_size]; simp only [List.length_append, List.length_cons, List.length_nil]; omega),
      if_pos (by rw [str_size, str_size]; simp only [List.length_append, List.length_cons, List.length_nil]; omega), if_pos (by rw [str_size, str_size]; omega), wrap_succ i (by omega)]
    have := text_l0 T hT hx r (i + 1) k (s ++ par1 t) h2 (by omega) (by rw [List.length_append]; omega)
    rw [this, List.flatMap_cons, List.append_assoc]
theorem text_is20 (d : Bytes) (hd : d.length ≤ 1000000) (T : List (Bytes × Bytes)) (hT : T.length ≤ 1000000) (hx : ∀ x ∈ T, x.1.length ≤ 1000000 ∧ x.2.length ≤ 1000000) (k : Nat) (hk : T.length + 2000010 ≤ k) : mime_Type_Text.f k (str d) (T.map par158) = some (str (typeText d T)) := by
  unfold mime_Type_Text.f
  rw [List.length_map]
  exact text_l0 T hT hx T 0 k d rfl hk (by omega)
end Go.Proofs.YtgaaogijfikfeaaDoor.Pl
set_option linter.unusedVariables false
namespace Go.Proofs.YtgaaogijfikfeaaDoor.Pl
open Go.RowKit Go.Proofs.YtgaaogijfikfeaaDoorW.PrintWords Go.Proofs.YtgaaogijfikfeaaDoor.Fn

/-! Layer 13, the document's: the address that tokens are. -/
end Go.Proofs.YtgaaogijfikfeaaDoor.Pl
namespace Go.Proofs.YtgaaogijfikfeaaDoor.Fn
open Go.RowKit Go.Proofs.YtgaaogijfikfeaaDoorW.PrintWords Go.Proofs.YtgaaogijfikfeaaDoorW.PrintLast Go.Proofs.YtgaaogijfikfeaaDoorW.PrintMore
attribute [local go_sem] max2_int min2_int max_two min_two max_three min_three max_four min_four
set_option linter.unusedVariables false
set_option linter.unusedSimpArgs false

/-! ### bulletinref20_ReadType: function 55 -/
mutual
def bulletinref20_ReadType.l0 : Nat → List (S160) → List ByteArray → ByteArray → Int → Option (ByteArray × (List (S154)) × Bool)
 | 0, _, _, _, _ => none
 | k + 1, x4, x6, x7, x8 => if x8 < (x4.length : Int) then (if 0 ≤ x8 then (if ((rd_T160 x4 x8).f0) = 3 then (if ((rd_T160 x4 x8).f1).toList = ([59] : List UInt8) then (if x6.length < 8796093022208 then (bulletinref20_ReadType.l0 k x4 (x6 ++ [x7]) (⟨#[]⟩ : ByteArray) (wrap64 (x8 + 1))) else (none)) else (if x7.size + ((rd_T160 x4 x8).f1).size ≤ 9223372036854775807 then (bulletinref20_ReadType.l0 k x4 x6 (x7 ++ ((rd_T160 x4 x8).f1)) (wrap64 (x8 + 1))) else (none))) else (if x7.size + ((rd_T160 x4 x8).f1).size ≤ 9223372036854775807 then (bulletinref20_ReadType.l0 k x4 x6 (x7 ++ ((rd_T160 x4 x8).f1)) (wrap64 (x8 + 1))) else (none))) else (none)) else (if x6.length < 8796093022208 then ((some (x6 ++ [x7] : List ByteArray)).bind fun y739 => (if 0 < (y739.length : Int) then ((bulletinref12_IsAtom.f k (rdOf ByteArray.empty y739 0)).bind fun t743 => (if t743 = true then ((bulletinref20_has.f k (rdOf ByteArray.empty y739 0) 47).bind fun t744 => (if t744 = 1 then (if 0 < ((rdOf ByteArray.empty y739 0).size : Int) then (if (bt (rdOf ByteArray.empty y739 0) 0) = 47 then (bulletinref20_ReadType.j1 k y739 (rdOf ByteArray.empty y739 0) true) else (if 0 ≤ (wrap64 (((rdOf ByteArray.empty y739 0).size : Int) - 1)) then (if (wrap64 (((rdOf ByteArray.empty y739 0).size : Int) - 1)) < ((rdOf ByteArray.empty y739 0).size : Int) then (bulletinref20_ReadType.j1 k y739 (rdOf ByteArray.empty y739 0) ((bt (rdOf ByteArray.empty y739 0) (wrap64 (((rdOf ByteArray.empty y739 0).size : Int) - 1))) == 47)) else (none)) else (none))) else (none)) else (bulletinref20_ReadType.j1 k y739 (rdOf ByteArray.empty y739 0) true))) else (bulletinref20_ReadType.j1 k y739 (rdOf ByteArray.empty y739 0) true))) else (none))) else (none))
def bulletinref20_ReadType.j1 : Nat → List ByteArray → ByteArray → Bool → Option (ByteArray × (List (S154)) × Bool)
 | 0, _, _, _ => none
 | k + 1, x6, x9, x80 => if x80 = true then (some ((⟨#[]⟩ : ByteArray), ([] : List (S154)), false)) else ((bulletinref06_Fold.f k x9).bind fun t745 => (bulletinref20_ReadType.l1 k x6 1 t745 ([] : List (S154))))
def bulletinref20_ReadType.l1 : Nat → List ByteArray → Int → ByteArray → List (S154) → Option (ByteArray × (List (S154)) × Bool)
 | 0, _, _, _, _ => none
 | k + 1, x6, x11, x747000, x747001 => if x11 < (x6.length : Int) then (if 0 ≤ x11 then ((bulletinref13_Split.f k (rdOf ByteArray.empty x6 x11) 61).bind fun t748 => (if 0 < (t748.length : Int) then (if ((rdOf ByteArray.empty t748 0).size : Int) = ((rdOf ByteArray.empty x6 x11).size : Int) then (some ((⟨#[]⟩ : ByteArray), ([] : List (S154)), false)) else (if 0 ≤ ((rdOf ByteArray.empty t748 0).size : Int) then (if ((rdOf ByteArray.empty t748 0).size : Int) ≤ ((rdOf ByteArray.empty x6 x11).size : Int) then ((bulletinref12_IsAtom.f k ((rdOf ByteArray.empty x6 x11).extract 0 (((rdOf ByteArray.empty t748 0).size : Int) : Int).toNat)).bind fun t752 => (if t752 = true then ((bulletinref06_Fold.f k ((rdOf ByteArray.empty x6 x11).extract 0 (((rdOf ByteArray.empty t748 0).size : Int) : Int).toNat)).bind fun t753 => (if 0 ≤ (wrap64 (((rdOf ByteArray.empty t748 0).size : Int) + 1)) then (if (wrap64 (((rdOf ByteArray.empty t748 0).size : Int) + 1)) ≤ ((rdOf ByteArray.empty x6 x11).size : Int) then (if x747001.length < 4398046511104 then (bulletinref20_ReadType.l1 k x6 (wrap64 (x11 + 1)) x747000 (x747001 ++ [(⟨t753, (rdOf ByteArray.empty x6 x11).extract ((wrap64 (((rdOf ByteArray.empty t748 0).size : Int) + 1)) : Int).toNat (rdOf ByteArray.empty x6 x11).size⟩ : S154)])) else (none)) else (none)) else (none))) else (some ((⟨#[]⟩ : ByteArray), ([] : List (S154)), false)))) else (none)) else (none))) else (none))) else (none)) else (some (x747000, x747001, true))
end
def bulletinref20_ReadType.f (k : Nat) (a0 : ByteArray) : Option (ByteArray × (List (S154)) × Bool) := (bulletinref12_Scan.f k a0).bind fun bt728 => (if bt728.2 = 0 then (bulletinref20_ReadType.l0 k bt728.1 ([] : List ByteArray) (⟨#[]⟩ : ByteArray) 0) else (some ((⟨#[]⟩ : ByteArray), ([] : List (S154)), false)))
end Go.Proofs.YtgaaogijfikfeaaDoor.Fn
namespace Go.Proofs.YtgaaogijfikfeaaDoor.Fn
open Go.RowKit Go.Proofs.YtgaaogijfikfeaaDoorW.PrintWords Go.Proofs.YtgaaogijfikfeaaDoorW.PrintLast Go.Proofs.YtgaaogijfikfeaaDoorW.PrintMore
attribute [local go_sem] max2_int min2_int max_two min_two max_three min_three max_four min_four
set_option linter.unusedVariables false
set_option linter.unusedSimpArgs false

/-! ### bulletinref20_Value: function 59 -/
def bulletinref20_Value.l0 : Nat → ByteArray → Int → ByteArray → List (S154) → Option (ByteArray × Bool)
 | 0, _, _, _, _ => none
 | k + 1, x1, x6, x772000, x772001 => if x6 < (x772001.length : Int) then (if 0 ≤ x6 then ((bulletinref06_Fold.f k x1).bind fun t773 => (if ((rd_T154 x772001 x6).f0).toList = t773.toList then (some ((rd_T154 x772001 x6).f1, true)) else (bulletinref20_Value.l0 k x1 (wrap64 (x6 + 1)) x772000 x772001))) else (none)) else (some ((⟨#[]⟩ : ByteArray), false))
def bulletinref20_Value.f (k : Nat) (a0_0 : ByteArray) (l0_1 : List (S154)) (a1 : ByteArray) : Option (ByteArray × Bool) := bulletinref20_Value.l0 k a1 0 a0_0 l0_1
end Go.Proofs.YtgaaogijfikfeaaDoor.Fn
set_option linter.unusedVariables false
set_option linter.unusedSimpArgs false
namespace Go.Proofs.YtgaaogijfikfeaaDoor.Pl
open Go.RowKit Go.Proofs.YtgaaogijfikfeaaDoorW.PrintWords Go.Proofs.YtgaaogijfikfeaaDoor.Fn

/-! Layer 20, the document's: a body's type; it answers as the program does. -/
theorem idx_app (c : UInt8) : ∀ (l : Bytes) (n : Nat), Lib.indexByte l c = (n : Int) → l = l.take n ++ c :: l.drop (n + 1)
  | [], n, h => by simp [Lib.indexByte] at h
  | b :: l, n, h => by
    rw [Lib.indexByte] at h
    by_cases hb : (b == c) = true
    · rw [if_pos hb] at h
      obtain rfl : n = 0 := by omega
      simpa using hb
    · rw [if_neg hb] at h
      by_cases h2 : (Lib.indexByte l c == -1) = true
      · rw [if_pos h2] at h; omega
      · rw [if_neg h2] at h
        have h3 := Lib.indexByte_ge l c
        have h4 : Lib.indexByte l c ≠ -1 := by simpa using h2
        obtain ⟨m, rfl⟩ : ∃ m, n = m + 1 := ⟨n - 1, by omega⟩
        have ih := idx_app c l m (by omega)
        rw [List.take_succ_cons, List.drop_succ_cons, List.cons_append, ← ih]
theorem cutL_some {c : UInt8} {l : Bytes} (h : (cutL c l).2.2 = true) : l = (cutL c l).1 ++ c :: (cutL c l).2.1 ∧ splitL c l = (cutL c l).1 :: splitL c (cutL c l).2.1 := by
  unfold cutL at h ⊢
  by_cases hn : Lib.indexByte l c < 0
  · rw [if_pos hn] at h; cases h
  · rw [if_neg hn]
    exact ⟨idx_app c l _ (by omega), indexByte_nat c l _ (by omega)⟩
theorem cutL_none {c : UInt8} {l : Bytes} (h : (cutL c l).2.2 = false) : cutL c l = (l, [], false) ∧ splitL c l = [l] := by
  unfold cutL at h ⊢
  by_cases hn : Lib.indexByte l c < 0
  · rw [if_pos hn]
    exact ⟨rfl, indexByte_neg c l hn⟩
  · rw [if_neg hn] at h; cases h
theorem hasB_len (c : UInt8) (l : Bytes) : hasB c l = decide (2 ≤ (splitL c l).length) := by
  unfold hasB
  by_cases hn : Lib.indexByte l c < 0
  · rw [indexByte_neg c l hn]
    simp; omega
  · rw [indexByte_nat c l (Lib.indexByte l c).toNat (by omega)]
    have := List.length_pos_iff.2 (splitL_ne c (l.drop ((Lib.indexByte l c).toNat + 1)))
    simp only [List.length_cons]
    rw [decide_eq_true (by omega), decide_eq_true (by omega)]
theorem hasB_mem {c : UInt8} : ∀ {l : Bytes}, hasB c l = false → c ∉ l
  | [], _ => by simp
  | b :: l, h => by
    unfold hasB at h
    rw [Lib.indexByte] at h
    by_cases hb : (b == c) = true
    · rw [if_pos hb] at h; simp at h
    · rw [if_neg hb] at h
      have h3 := Lib.indexByte_ge l c
      have hl : hasB c l = false := by
        unfold hasB
        by_cases h2 : (Lib.indexByte l c == -1) = true
        · have h4 : Lib.indexByte l c = -1 := by simpa using h2
          rw [h4]; rfl
        · rw [if_neg h2] at h
          have h4 : Lib.indexByte l c ≠ -1 := by simpa using h2
          have := of_decide_eq_false h
          omega
      have ih := hasB_mem hl
      simp only [List.mem_cons, not_or]
      exact ⟨fun e => hb (by simp [e]), ih⟩
theorem ref13split_is (s : ByteArray) (hs : s.size ≤ 1000000000) (c : UInt8) (k : Nat) (hk : s.size + 1 ≤ k) : bulletinref13_Split.f k s (c.toNat : Int) = some ((splitL c (bs s)).map str) := by
  have := refSplit_l0 s hs c (bs s) 0 k [] [] (by simp) (by omega) (by rw [bs_length]; omega) (by simp) (by simp)
  rw [headJoin_nil _ (splitL_ne _ _)] at this
  unfold bulletinref13_Split.f
  exact this
theorem refhas_is (s : ByteArray) (hs : s.size ≤ 1000000) (c : UInt8) (k : Nat) (hk : s.size + 1 ≤ k) : bulletinref20_has.f k s (c.toNat : Int) = some (((splitL c (bs s)).length - 1 : Nat) : Int) := by
  unfold bulletinref20_has.f
  have h1 := List.length_pos_iff.2 (splitL_ne c (bs s))
  have h2 := splitL_length c (bs s)
  rw [bs_length] at h2
  rw [ref13split_is s (by omega) c k hk, Option.bind_some, List.length_map, wrap_id (by omega) (by omega)]
  congr 1
  omega
theorem refhas47 (s : ByteArray) (hs : s.size ≤ 1000000) (k : Nat) (hk : s.size + 1 ≤ k) : bulletinref20_has.f k s 47 = some (((splitL 47 (bs s)).length - 1 : Nat) : Int) := refhas_is s hs 47 k hk
theorem refhas61 (s : ByteArray) (hs : s.size ≤ 1000000) (k : Nat) (hk : s.size + 1 ≤ k) : bulletinref20_has.f k s 61 = some (((splitL 61 (bs s)).length - 1 : Nat) : Int) := refhas_is s hs 61 k hk
def par154 (x : Bytes × Bytes) : S154 := ⟨str x.1, str x.2⟩
theorem take_of_app {p a b : Bytes} {c : UInt8} (h : p = a ++ c :: b) : p.take a.length = a := by
  subst h; simp
theorem drop_of_app {p a b : Bytes} {c : UInt8} (h : p = a ++ c :: b) : p.drop (a.length + 1) = b := by
  subst h
  rw [← List.drop_drop, List.drop_left]; rfl
theorem kind_is (p : Bytes) (ha : atomL p = true) (hc : (splitL 47 p).length = 2) : ∃ c m x n, p = c :: m ∧ p = n ++ [x] ∧ kindL p = (!(c == 47 || x == 47)) := by
  have h3 : (cutL 47 p).2.2 = true := by
    cases h3 : (cutL 47 p).2.2 with
    | true => rfl
    | false => rw [(cutL_none h3).2] at hc; cases hc
  obtain ⟨e1, e2⟩ := cutL_some h3
  rw [e2, List.length_cons] at hc
  have hb : hasB 47 (cutL 47 p).2.1 = false := by
    rw [hasB_len]
    exact decide_eq_false (by omega)
  have hm := hasB_mem hb
  have h47 : hasB 47 p = true := by
    rw [hasB_len, e2, List.length_cons]
    exact decide_eq_true (by omega)
  have hk : kindL p = (!(cutL 47 p).1.isEmpty && !(cutL 47 p).2.1.isEmpty) := by
    unfold kindL
    rw [h3, hb, ha]
    simp
  have hfirst : ∀ y r, (cutL 47 p).1 = y :: r → y ≠ 47 := by
    intro y r hy hq
    subst hq
    rw [hy] at e1
    have : splitL 47 p = [] :: splitL 47 (r ++ 47 :: (cutL 47 p).2.1) := by
      conv => lhs; rw [e1]
      rw [List.cons_append, splitL, if_pos rfl]
    rw [e2, hy] at this
    cases this
  rw [hk]
  generalize (cutL 47 p).1 = a at *
  generalize (cutL 47 p).2.1 = b at *
  rcases List.eq_nil_or_concat b with rfl | ⟨b', x, rfl⟩
  · cases a with
    | nil => exact ⟨47, [], 47, [], by simpa using e1, by simpa using e1, rfl⟩
    | cons c m => exact ⟨c, m ++ [47], 47, c :: m, by simpa using e1, by simpa using e1, by simp⟩
  · have hx : x ≠ 47 := fun q => hm (by simp [q])
    cases a with
    | nil => exact ⟨47, b' ++ [x], x, 47 :: b', by simpa using e1, by simpa using e1, by simp⟩
    | cons c m =>
      have hc47 := hfirst c m rfl
      exact ⟨c, m ++ 47 :: (b' ++ [x]), x, c :: m ++ 47 :: b', by simpa using e1, by simpa using e1, by rw [show (c == 47) = false by simpa using hc47, show (x == 47) = false by simpa using hx]; simp⟩
theorem rd154_drop {l : List (Bytes × Bytes)} {i : Nat} {t : Bytes × Bytes} {r : List (Bytes × Bytes)} (h : l.drop i = t :: r) : rd_T154 (l.map par154) (i : Int) = par154 t := by
  have h1 : l[i]? = some t := by
    have := congrArg List.head? h
    rw [List.head?_drop] at this
    exact this
  unfold rd_T154
  rw [List.getD_eq_getElem?_getD, List.getElem?_map]
  simp [h1]
end Go.Proofs.YtgaaogijfikfeaaDoor.Pl
namespace Go.Proofs.YtgaaogijfikfeaaDoor.Fn
open Go.RowKit Go.Proofs.YtgaaogijfikfeaaDoorW.PrintWords Go.Proofs.YtgaaogijfikfeaaDoorW.PrintLast Go.Proofs.YtgaaogijfikfeaaDoorW.PrintMore
attribute [local go_sem] max2_int min2_int max_two min_two max_three min_three max_four min_four
set_option linter.unusedVariables false
set_option linter.unusedSimpArgs false

/-! ### bulletinref20_Text: function 61 -/
def bulletinref20_Text.l0 : Nat → ByteArray → Int → ByteArray → List (S154) → Option (ByteArray)
 | 0, _, _, _, _ => none
 | k + 1, x3, x4, x776000, x776001 => if x4 < (x776001.length : Int) then (if 0 ≤ x4 then ((bulletinref12_IsAtom.f k ((rd_T154 x776001 x4).f1)).bind fun t777 => (if t777 = true then ((bulletinref20_has.f k ((rd_T154 x776001 x4).f1) 61).bind fun t778 => ((bulletinref20_has.f k ((rd_T154 x776001 x4).f1) 47).bind fun t779 => ((bulletinref20_has.f k ((rd_T154 x776001 x4).f1) 63).bind fun t780 => (if (wrap64 ((wrap64 (t778 + t779)) + t780)) > 0 then ((bulletinref12_Quote.f k ((rd_T154 x776001 x4).f1)).bind fun t781 => (if x3.size + 2 ≤ 9223372036854775807 then (if (x3 ++ (⟨#[59, 32]⟩ : ByteArray)).size + ((rd_T154 x776001 x4).f0).size ≤ 9223372036854775807 then (if ((x3 ++ (⟨#[59, 32]⟩ : ByteArray)) ++ ((rd_T154 x776001 x4).f0)).size + 1 ≤ 9223372036854775807 then (if (((x3 ++ (⟨#[59, 32]⟩ : ByteArray)) ++ ((rd_T154 x776001 x4).f0)) ++ (⟨#[61]⟩ : ByteArray)).size + t781.size ≤ 9223372036854775807 then (bulletinref20_Text.l0 k ((((x3 ++ (⟨#[59, 32]⟩ : ByteArray)) ++ ((rd_T154 x776001 x4).f0)) ++ (⟨#[61]⟩ : ByteArray)) ++ t781) (wrap64 (x4 + 1)) x776000 x776001) else (none)) else (none)) else (none)) else (none))) else (if x3.size + 2 ≤ 9223372036854775807 then (if (x3 ++ (⟨#[59, 32]⟩ : ByteArray)).size + ((rd_T154 x776001 x4).f0).size ≤ 9223372036854775807 then (if ((x3 ++ (⟨#[59, 32]⟩ : ByteArray)) ++ ((rd_T154 x776001 x4).f0)).size + 1 ≤ 9223372036854775807 then (if (((x3 ++ (⟨#[59, 32]⟩ : ByteArray)) ++ ((rd_T154 x776001 x4).f0)) ++ (⟨#[61]⟩ : ByteArray)).size + ((rd_T154 x776001 x4).f1).size ≤ 9223372036854775807 then (bulletinref20_Text.l0 k ((((x3 ++ (⟨#[59, 32]⟩ : ByteArray)) ++ ((rd_T154 x776001 x4).f0)) ++ (⟨#[61]⟩ : ByteArray)) ++ ((rd_T154 x776001 x4).f1)) (wrap64 (x4 + 1)) x776000 x776001) else (none)) else (none)) else (none)) else (none)))))) else ((bulletinref12_Quote.f k ((rd_T154 x776001 x4).f1)).bind fun t784 => (if x3.size + 2 ≤ 9223372036854775807 then (if (x3 ++ (⟨#[59, 32]⟩ : ByteArray)).size + ((rd_T154 x776001 x4).f0).size ≤ 9223372036854775807 then (if ((x3 ++ (⟨#[59, 32]⟩ : ByteArray)) ++ ((rd_T154 x776001 x4).f0)).size + 1 ≤ 9223372036854775807 then (if (((x3 ++ (⟨#[59, 32]⟩ : ByteArray)) ++ ((rd_T154 x776001 x4).f0)) ++ (⟨#[61]⟩ : ByteArray)).size + t784.size ≤ 9223372036854775807 then (bulletinref20_Text.l0 k ((((x3 ++ (⟨#[59, 32]⟩ : ByteArray)) ++ ((rd_T154 x776001 x4).f0)) ++ (⟨#[61]⟩ : ByteArray)) ++ t784) (wrap64 (x4 + 1)) x776000 x776001) else (none)) else (none)) else (none)) else (none))))) else (none)) else (some x3)
def bulletinref20_Text.f (k : Nat) (a0_0 : ByteArray) (l0_1 : List (S154)) : Option (ByteArray) := bulletinref20_Text.l0 k a0_0 0 a0_0 l0_1
end Go.Proofs.YtgaaogijfikfeaaDoor.Fn
set_option linter.unusedVariables false
set_option linter.unusedSimpArgs false
namespace Go.Proofs.YtgaaogijfikfeaaDoor.Pl
open Go.RowKit Go.Proofs.YtgaaogijfikfeaaDoorW.PrintWords Go.Proofs.YtgaaogijfikfeaaDoor.Fn

/-! Layer 20, the document's: a type as text. -/
end Go.Proofs.YtgaaogijfikfeaaDoor.Pl
