/- A part of the proof of this sentence: MbxReads (14.6): the boxes of any bytes, and the one box, or why there are none, are as the document has them; of at most 2000 bytes. -/
import Derived.Test.YtihabmcaplnbcaaDoorCMbxReads4
namespace Go.Proofs.YtihabmcaplnbcaaDoor.Fn
open Go.RowKit Go.Proofs.YtihabmcaplnbcaaDoorW.PrintWords Go.Proofs.YtihabmcaplnbcaaDoorW.PrintLast Go.Proofs.YtihabmcaplnbcaaDoorW.PrintMore
attribute [local go_sem] max2_int min2_int max_two min_two max_three min_three max_four min_four
set_option linter.unusedVariables false
set_option linter.unusedSimpArgs false

mutual
def bulletinref14_Read.l0 : Nat → List (S73) → List (S40) → Bool → Int → Option ((List (S40)) × Int)
 | 0, _, _, _, _ => none
 | k + 1, x6, x7, x8, x9 => if x9 < (x6.length : Int) then (if 0 ≤ x9 then ((bulletinref14_words.f k ((rd_T73 x6 x9).f0) ((rd_T73 x6 x9).f1)).bind fun bt334 => (if ((rd_T73 x6 x9).f1).toList = ([58] : List UInt8) then (if bt334.2 = true then (if (((rd_T73 x6 x9).f0).length : Int) > 0 then (bulletinref14_Read.j1 k x6 x7 x8 x9 bt334.1 bt334.2 (!x8) ((rd_T73 x6 x9).f0) ((rd_T73 x6 x9).f1)) else (bulletinref14_Read.j1 k x6 x7 x8 x9 bt334.1 bt334.2 false ((rd_T73 x6 x9).f0) ((rd_T73 x6 x9).f1))) else (bulletinref14_Read.j1 k x6 x7 x8 x9 bt334.1 bt334.2 false ((rd_T73 x6 x9).f0) ((rd_T73 x6 x9).f1))) else (bulletinref14_Read.j1 k x6 x7 x8 x9 bt334.1 bt334.2 false ((rd_T73 x6 x9).f0) ((rd_T73 x6 x9).f1)))) else (none)) else (some (([] : List (S40)), 130))
def bulletinref14_Read.j1 : Nat → List (S73) → List (S40) → Bool → Int → ByteArray → Bool → Bool → List (S113) → ByteArray → Option ((List (S40)) × Int)
 | 0, _, _, _, _, _, _, _, _, _ => none
 | k + 1, x6, x7, x8, x9, x11, x12, x57, x334000, x334001 => if x57 = true then (if (wrap64 (x9 + 1)) < (x6.length : Int) then (if 0 ≤ (wrap64 (x9 + 1)) then (if (((rd_T73 x6 (wrap64 (x9 + 1))).f0).length : Int) = 0 then (if ((rd_T73 x6 (wrap64 (x9 + 1))).f1).toList = ([59] : List UInt8) then (bulletinref14_Read.j4 k x6 x7 true (wrap64 (x9 + 1)) ((rd_T73 x6 (wrap64 (x9 + 1))).f0) ((rd_T73 x6 (wrap64 (x9 + 1))).f1)) else (bulletinref14_Read.l0 k x6 x7 true (wrap64 (x9 + 1)))) else (bulletinref14_Read.l0 k x6 x7 true (wrap64 (x9 + 1)))) else (none)) else (bulletinref14_Read.l0 k x6 x7 true (wrap64 (x9 + 1)))) else (if x334001.toList = ([60] : List UInt8) then (bulletinref14_Read.j2 k x6 x7 x8 x9 x11 x12 x334000 x334001 (⟨#[]⟩ : ByteArray) (⟨#[]⟩ : ByteArray) (⟨#[]⟩ : ByteArray)) else (bulletinref14_Read.j2 k x6 x7 x8 x9 x11 false x334000 x334001 (⟨#[]⟩ : ByteArray) (⟨#[]⟩ : ByteArray) (⟨#[]⟩ : ByteArray)))
def bulletinref14_Read.j4 : Nat → List (S73) → List (S40) → Bool → Int → List (S113) → ByteArray → Option ((List (S40)) × Int)
 | 0, _, _, _, _, _, _ => none
 | k + 1, x6, x7, x8, x9, x334000, x334001 => if x334001.toList = ([59] : List UInt8) then (bulletinref14_Read.j5 k x6 x7 x8 x9 x8 x334000 x334001) else (bulletinref14_Read.j5 k x6 x7 x8 x9 false x334000 x334001)
def bulletinref14_Read.j5 : Nat → List (S73) → List (S40) → Bool → Int → Bool → List (S113) → ByteArray → Option ((List (S40)) × Int)
 | 0, _, _, _, _, _, _, _ => none
 | k + 1, x6, x7, x8, x9, x141, x334000, x334001 => if x141 = true then (if 0 ≤ (wrap64 (x9 + 1)) then (if (wrap64 (x9 + 1)) < (x6.length : Int) then (if (((rd_T73 x6 (wrap64 (x9 + 1))).f0).length : Int) > 0 then (some (([] : List (S40)), 130)) else (bulletinref14_Read.j6 k x6 x7 false (wrap64 (x9 + 1)) ((rd_T73 x6 (wrap64 (x9 + 1))).f0) ((rd_T73 x6 (wrap64 (x9 + 1))).f1))) else (none)) else (none)) else (bulletinref14_Read.j6 k x6 x7 x8 x9 x334000 x334001)
def bulletinref14_Read.j6 : Nat → List (S73) → List (S40) → Bool → Int → List (S113) → ByteArray → Option ((List (S40)) × Int)
 | 0, _, _, _, _, _, _ => none
 | k + 1, x6, x7, x8, x9, x334000, x334001 => if x334001.toList = ([] : List UInt8) then (bulletinref14_Read.j7 k x6 x7 x8 x9 (!x8) x334000 x334001) else (bulletinref14_Read.j7 k x6 x7 x8 x9 false x334000 x334001)
def bulletinref14_Read.j7 : Nat → List (S73) → List (S40) → Bool → Int → Bool → List (S113) → ByteArray → Option ((List (S40)) × Int)
 | 0, _, _, _, _, _, _, _ => none
 | k + 1, x6, x7, x8, x9, x158, x334000, x334001 => if x158 = true then (some (x7, 0)) else (if x334001.toList = ([44] : List UInt8) then (bulletinref14_Read.l0 k x6 x7 x8 (wrap64 (x9 + 1))) else (some (([] : List (S40)), 130)))
def bulletinref14_Read.j2 : Nat → List (S73) → List (S40) → Bool → Int → ByteArray → Bool → List (S113) → ByteArray → ByteArray → ByteArray → ByteArray → Option ((List (S40)) × Int)
 | 0, _, _, _, _, _, _, _, _, _, _, _ => none
 | k + 1, x6, x7, x8, x9, x11, x14, x334000, x334001, x340000, x340001, x340002 => if x14 = true then (if 0 ≤ (wrap64 (x9 + 1)) then (if (wrap64 (x9 + 1)) < (x6.length : Int) then (bulletinref14_Read.j3 k x6 x7 x8 (wrap64 (x9 + 1)) x14 ((rd_T73 x6 (wrap64 (x9 + 1))).f0) ((rd_T73 x6 (wrap64 (x9 + 1))).f1) x11 x340001 x340002) else (none)) else (none)) else (bulletinref14_Read.j3 k x6 x7 x8 x9 x14 x334000 x334001 x340000 x340001 x340002)
def bulletinref14_Read.j3 : Nat → List (S73) → List (S40) → Bool → Int → Bool → List (S113) → ByteArray → ByteArray → ByteArray → ByteArray → Option ((List (S40)) × Int)
 | 0, _, _, _, _, _, _, _, _, _, _ => none
 | k + 1, x6, x7, x8, x9, x14, x334000, x334001, x340000, x340001, x340002 => (bulletinref13_Of.f k x334000).bind fun bt341 => (if bt341.2.2 = 0 then (if (x7.length : Int) = 100 then (some (([] : List (S40)), 8)) else (if x7.length < 2932031007402 then ((some (x7 ++ [(⟨x340000, (⟨bt341.1, bt341.2.1⟩ : S38)⟩ : S40)] : List (S40))).bind fun y345 => (if x14 = true then (if x334001.toList = ([62] : List UInt8) then (if 0 ≤ (wrap64 (x9 + 1)) then (if (wrap64 (x9 + 1)) < (x6.length : Int) then (if (((rd_T73 x6 (wrap64 (x9 + 1))).f0).length : Int) > 0 then (some (([] : List (S40)), 130)) else (bulletinref14_Read.j4 k x6 y345 x8 (wrap64 (x9 + 1)) ((rd_T73 x6 (wrap64 (x9 + 1))).f0) ((rd_T73 x6 (wrap64 (x9 + 1))).f1))) else (none)) else (none)) else (some (([] : List (S40)), 130))) else (bulletinref14_Read.j4 k x6 y345 x8 x9 x334000 x334001))) else (none))) else (some (([] : List (S40)), bt341.2.2)))
end
def bulletinref14_Read.f (k : Nat) (a0 : ByteArray) : Option ((List (S40)) × Int) := (bulletinref12_Scan.f k a0).bind fun bt325 => (if bt325.2 = 0 then ((bulletinref14_cut.f k bt325.1).bind fun t329 => (bulletinref14_Read.l0 k t329 ([] : List (S40)) false 0)) else (some (([] : List (S40)), bt325.2)))
set_option maxHeartbeats 8000000 in
set_option maxRecDepth 100000 in
theorem bulletinref14_Read.calls (k : Nat) (a0 : ByteArray) (r1 : List (S40)) (r2 : Int) (w : World) (h : bulletinref14_Read.f k a0 = some (r1, r2)) :
  Calls Tryd.prog 12 #[.string a0] w fun e w' => ∃ v0_ : Value, e = .returned (.tuple #[v0_, .int .i64 r2]) ∧ Kd.R k40 40 w' w.heap.size (fun _ => True) v0_ r1 ∧ Below w.heap.size w w' := by
 have hu73 := Tryd.underlying73; have hu40 := Tryd.underlying40; have hu38 := Tryd.underlying38; have HB := Aside0.mk (Below.refl w.heap.size w); have H : ((bulletinref12_Scan.f k a0).bind fun bt325 => (if bt325.2 = 0 then ((bulletinref14_cut.f k bt325.1).bind fun t329 => (bulletinref14_Read.l0 k t329 ([] : List (S40)) false 0)) else (some (([] : List (S40)), bt325.2)))) = some (r1, r2) := h; clear h; replace H := Option.bind_eq_some_iff.mp H; obtain ⟨⟨t325, t326⟩, A20, H⟩ := H; replace H : (if t326 = 0 then ((bulletinref14_cut.f k t325).bind fun t329 => (bulletinref14_Read.l0 k t329 ([] : List (S40)) false 0)) else (some (([] : List (S40)), t326))) = some (r1, r2) := H; have A2 := Aside0.mk A20; clear A20
 by_cases c3 : t326 = 0
 ·rw [if_pos c3] at H; have c3b0 := beq_iff_eq.mpr c3; have c3b1 := bne_eq_false_iff_eq.mpr c3; clear c3; replace H := Option.bind_eq_some_iff.mp H; obtain ⟨t329, A40, H⟩ := H; have A4 := Aside0.mk A40; clear A40; have H' := Aside0.mk H; clear H
  go_enter Tryd.func12, Tryd.ntmps12
  go_wp2_with (first | ((with_reducible refine gate_callee (f := 36) rfl ?_); refine goesL_ (some 19) rfl rfl Tryd.func36 (by kernel_rfl) rfl #[.string a0] rfl am ?_; (with_reducible refine (bulletinref12_Scan.calls k a0 t325 t326 _ A2.out).mono ?_); rintro e w5 ⟨v327, rfl, ho0, hb⟩; refine ⟨_, rfl, ?_⟩; have n0_ := Aside0.mk (Kd.R_lower ho0 (below_size bw)); have n1_ := Aside0.mk (below_step bw hb); clear HB; have HO328 := n0_; have HB := n1_; clear n0_ n1_; (try clear hb); (try clear hb2); (try clear hk); (try clear hi); (try clear ho0); obtain ⟨Ao6, co6, eo6⟩ := Kd.R_slice HO328.out; subst eo6) | ((with_reducible refine gate_callee (f := 37) rfl ?_); refine goesL_ (some 26) rfl rfl Tryd.func37 (by kernel_rfl) rfl #[.slice Ao6 t325.length co6] rfl am ?_; (with_reducible refine (bulletinref14_cut.calls k _ _ t325 t329 _ ?side1 ?side2 A4.out).mono ?_); (case side1 => repeat (first | exact (Kd.R_reads' HO328.out).2.2 | (with_reducible refine Kd.C_alloc ?_ _) | (with_reducible refine Kd.C_drewN ?_ _) | (with_reducible refine Kd.C_drew ?_))); (case side2 => exact (Kd.R_reads' HO328.out).2.1); rintro e w7 ⟨v330, rfl, ho0, hb⟩; refine ⟨_, rfl, ?_⟩; have n0_ := Aside0.mk (Kd.R_below (ra HO328.out) hb); have n1_ := Aside0.mk (Kd.S_lower (Kd.S_new' ho0 (Kd.R_lt (ra HO328.out))) (below_size bw)); have n2_ := Aside0.mk (below_step bw hb); clear HO328; clear HB; have HO328 := n0_; have HO331 := n1_; have HB := n2_; clear n0_ n1_ n2_; (try clear hb); (try clear hb2); (try clear hk); (try clear hi); (try clear ho0)))
  go_loopg [7, 8, 9] k (fun kq v7 v8 v9 w' => ∃ (x7_1 : List (S40)) (x8_1 : Bool) (x9_1 : Int), v8 = .bool x8_1 ∧ v9 = .int .i64 x9_1 ∧ Aside0 (bulletinref14_Read.l0 kq t329 x7_1 x8_1 x9_1 = some (r1, r2)) ∧ Aside0 (kq ≤ k) ∧ Aside0 (Kd.S k73 73 w' w.heap.size (fun _ => True) v330 t329) ∧ Aside0 (Kd.R k40 40 w' w.heap.size (fun _ => True) v7 x7_1) ∧ Aside0 (Below w.heap.size w w'))
  case atStart => exact ⟨(([] : List (S40))), (false), (0), cl, cl, H', ⟨Nat.le_refl _⟩, ⟨sa (Kd.S_mono HO331.out (fun _ hk => trivial))⟩, ⟨by first | exact Kd.R_nil _ _ _ _ _ | exact Kd.N_nil _ _ _ _ _ | exact Kd.V_nil _ _ _ _ _ | exact Kd.Q_nil _ _ _ _ _ | exact Kd.S_nil _ _ _ _ _⟩, ⟨bw⟩⟩
  case round =>
   clear H' c3b0 c3b1; obtain ⟨x7_1, x8_1, x9_1, rfl, rfl, HA, HK1, HO_6, HO_7, HB⟩ := hrel; cases gk with
   | zero => exact absurd HA.out (by simp [bulletinref14_Read.l0])
   | succ k1 =>
    have H := HA.out; clear HA; simp only [bulletinref14_Read.l0] at H
    by_cases c8 : x9_1 < (t329.length : Int)
    ·rw [if_pos c8] at H; have c8b0 := decide_eq_true c8; clear c8
     by_cases c9 : 0 ≤ x9_1
     ·rw [if_pos c9] at H; have c9b0 := decide_eq_true c9; clear c9; replace H := Option.bind_eq_some_iff.mp H; obtain ⟨⟨t334, t335⟩, A100, H⟩ := H; replace H : (if ((rd_T73 t329 x9_1).f1).toList = ([58] : List UInt8) then (if t335 = true then (if (((rd_T73 t329 x9_1).f0).length : Int) > 0 then (bulletinref14_Read.j1 k1 t329 x7_1 x8_1 x9_1 t334 t335 (!x8_1) ((rd_T73 t329 x9_1).f0) ((rd_T73 t329 x9_1).f1)) else (bulletinref14_Read.j1 k1 t329 x7_1 x8_1 x9_1 t334 t335 false ((rd_T73 t329 x9_1).f0) ((rd_T73 t329 x9_1).f1))) else (bulletinref14_Read.j1 k1 t329 x7_1 x8_1 x9_1 t334 t335 false ((rd_T73 t329 x9_1).f0) ((rd_T73 t329 x9_1).f1))) else (bulletinref14_Read.j1 k1 t329 x7_1 x8_1 x9_1 t334 t335 false ((rd_T73 t329 x9_1).f0) ((rd_T73 t329 x9_1).f1))) = some (r1, r2) := H; have A10 := Aside0.mk A100; clear A100; have HC11 := Aside0.mk H; clear H; obtain ⟨Ao12, co12, eo12⟩ := Kd.S_slice HO_6.out; subst eo12; have p332 : 0 ≤ (x9_1 : Int) := od; have q332 : x9_1 < (t329.length : Int) := od; obtain ⟨ad332, A332_0, c332_0, e332, hx332_0, hx332_1, hl332_0, hi332_0⟩ := at_T73 (Kd.S_reads' HO_6.out).2.2 x9_1 p332 q332; cases e332; obtain ⟨ce332, hce332, hMe332, hcc332⟩ := Kd.S_get HO_6.out z73 x9_1 p332 (by first | exact q332 | exact od | (have e_ := (Kd.S_reads' HO_6.out).1; omega)); obtain ⟨ve332_0, rfl, ge332_0⟩ := k73_openM hMe332; have hv332_0 := hcc332 0 _ rfl; rw [Nat.add_zero] at hv332_0; replace hv332_0 := Option.some.inj (hv332_0.symm.trans hx332_0); rw [hv332_0] at ge332_0; have HL332_0 := Aside0.mk (show Kd.R k113 113 _ _ _ _ ((rd_T73 t329 x9_1).f0) from ge332_0); clear hv332_0 ge332_0 hcc332 hce332; have HR332_0 := Aside0.mk hi332_0; have HC332_0 := Aside0.mk hl332_0; clear hi332_0 hl332_0; replace p332 := eq_true p332; replace q332 := eq_true q332
      go_upto_region 12 with (first | ((with_reducible refine gate_dst (N := 10) rfl ?_); (try (refine gate_guard (by rfl) ?_; dsimp only)); refine box_event ?hg (N := 10) ?hd (cs := #[.slice none 0 0, .string (⟨#[]⟩ : ByteArray)]) (t := 73) ?hr ?_; (case hd => rfl); (case hg => rfl); (case hr => first | (go_simp; done) | (go_simp; rfl)); intro gb333 hg w13 hbox hb; have n0_ := Aside0.mk (Kd.S_below (Kd.S_elderB (sa HO_6.out) gb333 (Nat.le_of_eq hg.symm)) hb); have n1_ := Aside0.mk (Kd.R_below (ra HO_7.out) hb); have n2_ := Aside0.mk (Kd.R_below (ra HL332_0.out) hb); have n3_ := Aside0.mk (Kd.C_below (by repeat (first | (with_reducible exact HR332_0.out) | (with_reducible refine Kd.C_alloc ?_ _) | (with_reducible refine Kd.C_drewN ?_ _) | (with_reducible refine Kd.C_drew ?_) | exact HR332_0.out)) hb); have n4_ := Aside0.mk (below_step bw hb); have n5_ := Aside0.mk (hbox); have n6_ := Aside0.mk ((by rw [hg]; exact (below_size bw) : w.heap.size ≤ gb333)); have n7_ := Aside0.mk ((by rw [hg]; exact (below_size bw) : w.heap.size ≤ gb333)); clear HO_6; clear HO_7; clear HL332_0; clear HR332_0; clear HB; have HO_6 := n0_; have HO_7 := n1_; have HL332_0 := n2_; have HR332_0 := n3_; have HB := n4_; have BK333 := n5_; have GW333 := n6_; have GE333 := n7_; clear n0_ n1_ n2_ n3_ n4_ n5_ n6_ n7_; clear hb hbox hg; have hcz14_0 : w13.cell? ⟨gb333, 0, none⟩ = some (.slice none 0 0) := (blk_cell BK333.out 0).trans rfl; have hcz14_1 : w13.cell? ⟨gb333, 1, none⟩ = some (.string (⟨#[]⟩ : ByteArray)) := (blk_cell BK333.out 1).trans rfl; have hfz14_0 := blk_frozen BK333.out 0; have hfz14_1 := blk_frozen BK333.out 1) | ((with_reducible refine gate_callee (f := 38) rfl ?_); refine goesL_ (some 39) rfl rfl Tryd.func38 (by kernel_rfl) rfl #[.agg #[.slice A332_0 ((rd_T73 t329 x9_1).f0).length c332_0, .string ((rd_T73 t329 x9_1).f1)]] rfl am ?_; (with_reducible refine (bulletinref14_words.calls k1 _ _ ((rd_T73 t329 x9_1).f0) ((rd_T73 t329 x9_1).f1) t334 t335 _ ?side1 ?side2 A10.out).mono ?_); (case side1 => repeat (first | exact ((Kd.R_reads' (by (with_reducible repeat (first | apply Kd.R_alloc | apply Kd.R_drewN | apply Kd.R_drew)); exact (Kd.R_mono (Kd.R_far (p := ⟨gb333, 1, none⟩) (Kd.R_far (p := ⟨gb333, 0, none⟩) (Kd.R_types HL332_0.out BK333.out (by decide)) (fun _ hk => hk.2) (.slice A332_0 ((rd_T73 t329 x9_1).f0).length c332_0)) (fun _ hk => hk.2) (.string ((rd_T73 t329 x9_1).f1))) (fun _ h_ => h_.1)))).2.2) | (with_reducible refine Kd.C_alloc ?_ _) | (with_reducible refine Kd.C_drewN ?_ _) | (with_reducible refine Kd.C_drew ?_))); (case side2 => exact HC332_0.out); rintro e w15 ⟨rfl, hb⟩; refine ⟨_, rfl, ?_⟩; have n0_ := Aside0.mk (Kd.S_below (sa ((Kd.S_mono (Kd.S_far (p := ⟨gb333, 1, none⟩) (Kd.S_far (p := ⟨gb333, 0, none⟩) (Kd.S_mono HO_6.out (fun k_ hk => (⟨hk, hk.2⟩ : _ ∧ k_ ≠ gb333))) (fun _ hk => hk.2) (.slice A332_0 ((rd_T73 t329 x9_1).f0).length c332_0)) (fun _ hk => hk.2) (.string ((rd_T73 t329 x9_1).f1))) (fun _ h_ => h_.1)))) hb); have n1_ := Aside0.mk (Kd.R_below (by (with_reducible repeat (first | apply Kd.R_alloc | apply Kd.R_drewN | apply Kd.R_drew)); exact (Kd.R_mono (Kd.R_far (p := ⟨gb333, 1, none⟩) (Kd.R_far (p := ⟨gb333, 0, none⟩) (Kd.R_types HO_7.out BK333.out (by decide)) (fun _ hk => hk.2) (.slice A332_0 ((rd_T73 t329 x9_1).f0).length c332_0)) (fun _ hk => hk.2) (.string ((rd_T73 t329 x9_1).f1))) (fun _ h_ => h_.1))) hb); have n2_ := Aside0.mk (Kd.R_below (by (with_reducible repeat (first | apply Kd.R_alloc | apply Kd.R_drewN | apply Kd.R_drew)); exact (Kd.R_mono (Kd.R_far (p := ⟨gb333, 1, none⟩) (Kd.R_far (p := ⟨gb333, 0, none⟩) (Kd.R_types HL332_0.out BK333.out (by decide)) (fun _ hk => hk.2) (.slice A332_0 ((rd_T73 t329 x9_1).f0).length c332_0)) (fun _ hk => hk.2) (.string ((rd_T73 t329 x9_1).f1))) (fun _ h_ => h_.1))) hb); have n3_ := Aside0.mk (Kd.C_below ((Kd.R_reads' (by (with_reducible repeat (first | apply Kd.R_alloc | apply Kd.R_drewN | apply Kd.R_drew)); exact (Kd.R_mono (Kd.R_far (p := ⟨gb333, 1, none⟩) (Kd.R_far (p := ⟨gb333, 0, none⟩) (Kd.R_types HL332_0.out BK333.out (by decide)) (fun _ hk => hk.2) (.slice A332_0 ((rd_T73 t329 x9_1).f0).length c332_0)) (fun _ hk => hk.2) (.string ((rd_T73 t329 x9_1).f1))) (fun _ h_ => h_.1)))).2.2) hb); have n4_ := Aside0.mk (blk_below (g := gb333) (o := .cells #[.slice A332_0 ((rd_T73 t329 x9_1).f0).length c332_0, .string ((rd_T73 t329 x9_1).f1)] 73 (0, 0)) (by (with_reducible repeat (first | refine blk_drewN ?_ _ | refine blk_drew ?_ | refine blk_alloc ?_ _)); refine blk_put (cs := #[.slice A332_0 ((rd_T73 t329 x9_1).f0).length c332_0, .string (⟨#[]⟩ : ByteArray)]) ?_ 1 _ rfl; (with_reducible repeat (first | refine blk_drewN ?_ _ | refine blk_drew ?_ | refine blk_alloc ?_ _)); exact blk_put (cs := #[.slice none 0 0, .string (⟨#[]⟩ : ByteArray)]) bk 0 _ rfl) hb); have n5_ := Aside0.mk (below_step bwS hb); clear HO_6; clear HO_7; clear HL332_0; clear HR332_0; clear BK333; clear HB; have HO_6 := n0_; have HO_7 := n1_; have HL332_0 := n2_; have HR332_0 := n3_; have BK333 := n4_; have HB := n5_; clear n0_ n1_ n2_ n3_ n4_ n5_; (try clear hb); (try clear hb2); (try clear hk); (try clear hi)))
      (try simp only [Act.put, List.setIfInBounds_toArray, List.set_cons_zero, List.set_cons_succ])
      go_cut [57] (fun v57 wc => ∃ (kq : Nat) (x57_10 : Bool), v57 = .bool x57_10 ∧ Aside0 (bulletinref14_Read.j1 kq t329 x7_1 x8_1 x9_1 t334 t335 x57_10 ((rd_T73 t329 x9_1).f0) ((rd_T73 t329 x9_1).f1) = some (r1, r2)) ∧ Aside0 (kq ≤ k1) ∧ Aside0 (Kd.S k73 73 wc w.heap.size (fun k_ => k_ ≠ gb333) (.slice (some ad332) t329.length co12) t329) ∧ Aside0 (Kd.R k40 40 wc w.heap.size (fun _ => True) u7 x7_1) ∧ Aside0 (Kd.R k113 113 wc w.heap.size (fun _ => True) (.slice A332_0 ((rd_T73 t329 x9_1).f0).length c332_0) ((rd_T73 t329 x9_1).f0)) ∧ Aside0 (wc.heap[gb333]? = some (.cells #[(.slice A332_0 ((rd_T73 t329 x9_1).f0).length c332_0), .string ((rd_T73 t329 x9_1).f1)] 73 (0, 0))) ∧ Aside0 (Kd.C k113 wc A332_0 ((rd_T73 t329 x9_1).f0).length ((rd_T73 t329 x9_1).f0)) ∧ Aside0 (Below w.heap.size w wc))
      case first =>
       have H := HC11.out; clear HC11
       by_cases c16 : ((rd_T73 t329 x9_1).f1).toList = ([58] : List UInt8)
       ·rw [if_pos c16] at H; have c16b0 := beq_iff_eq.mpr c16; have c16b1 := bne_eq_false_iff_eq.mpr c16; clear c16
        (first | rw [c16b0] | (simp only [i64_w, i32_w]; rw [c16b0]) | skip)
        by_cases c17 : t335 = true
        ·subst c17; rw [if_pos rfl] at H
         by_cases c18 : (((rd_T73 t329 x9_1).f0).length : Int) > 0
         ·rw [if_pos c18] at H; have c18b0 : decide (0 < (((rd_T73 t329 x9_1).f0).length : Int)) = true := decide_eq_true c18; have c18b1 : decide (0 < ((rd_T73 t329 x9_1).f0).length) = true := decide_eq_true (by omega); clear c18; have H' := Aside0.mk H; clear H; obtain ⟨hcz19_0, hcz19_1, hfz19_0, hfz19_1⟩ := bk2 BK333.out
          as_aux_lemma =>
           go_wp2
           go_meet
           case rel => exact ⟨_, (!x8_1), cl, H', ⟨by have := HK1.out; first | omega | exact Nat.le_refl _⟩, ⟨sa (Kd.S_mono HO_6.out (fun _ hk => hk.2))⟩, ⟨ra HO_7.out⟩, ⟨ra (Kd.R_mono HL332_0.out (fun _ hk => trivial))⟩, ⟨bk⟩, ⟨by repeat (first | (with_reducible exact HR332_0.out) | (with_reducible refine Kd.C_alloc ?_ _) | (with_reducible refine Kd.C_drewN ?_ _) | (with_reducible refine Kd.C_drew ?_) | exact HR332_0.out)⟩, ⟨bwS⟩⟩
         rw [if_neg c18] at H; have c18b0 : decide (0 < (((rd_T73 t329 x9_1).f0).length : Int)) = false := decide_eq_false c18; have c18b1 : decide (0 < ((rd_T73 t329 x9_1).f0).length) = false := decide_eq_false (by omega); clear c18; have H' := Aside0.mk H; clear H; obtain ⟨hcz20_0, hcz20_1, hfz20_0, hfz20_1⟩ := bk2 BK333.out
         as_aux_lemma =>
          go_wp2
          go_meet
          case rel => exact ⟨_, (false), cl, H', ⟨by have := HK1.out; first | omega | exact Nat.le_refl _⟩, ⟨sa (Kd.S_mono HO_6.out (fun _ hk => hk.2))⟩, ⟨ra HO_7.out⟩, ⟨ra (Kd.R_mono HL332_0.out (fun _ hk => trivial))⟩, ⟨bk⟩, ⟨by repeat (first | (with_reducible exact HR332_0.out) | (with_reducible refine Kd.C_alloc ?_ _) | (with_reducible refine Kd.C_drewN ?_ _) | (with_reducible refine Kd.C_drew ?_) | exact HR332_0.out)⟩, ⟨bwS⟩⟩
        replace c17 := Bool.eq_false_iff.mpr c17; subst c17; rw [if_neg nft] at H; have H' := Aside0.mk H; clear H; obtain ⟨hcz21_0, hcz21_1, hfz21_0, hfz21_1⟩ := bk2 BK333.out
        as_aux_lemma =>
         go_wp2
         go_meet
         case rel => exact ⟨_, (false), cl, H', ⟨by have := HK1.out; first | omega | exact Nat.le_refl _⟩, ⟨sa (Kd.S_mono HO_6.out (fun _ hk => hk.2))⟩, ⟨ra HO_7.out⟩, ⟨ra (Kd.R_mono HL332_0.out (fun _ hk => trivial))⟩, ⟨bk⟩, ⟨by repeat (first | (with_reducible exact HR332_0.out) | (with_reducible refine Kd.C_alloc ?_ _) | (with_reducible refine Kd.C_drewN ?_ _) | (with_reducible refine Kd.C_drew ?_) | exact HR332_0.out)⟩, ⟨bwS⟩⟩
       rw [if_neg c16] at H; have c16b0 := beq_eq_false_iff_ne.mpr c16; have c16b1 := bne_iff_ne.mpr c16
       (first | rw [c16b0] | (simp only [i64_w, i32_w]; rw [c16b0]) | skip)
       have H' := Aside0.mk H; clear H; obtain ⟨hcz22_0, hcz22_1, hfz22_0, hfz22_1⟩ := bk2 BK333.out
       as_aux_lemma =>
        go_wp2
        go_meet
        case rel => exact ⟨_, (false), cl, H', ⟨by have := HK1.out; first | omega | exact Nat.le_refl _⟩, ⟨sa (Kd.S_mono HO_6.out (fun _ hk => hk.2))⟩, ⟨ra HO_7.out⟩, ⟨ra (Kd.R_mono HL332_0.out (fun _ hk => trivial))⟩, ⟨bk⟩, ⟨by repeat (first | (with_reducible exact HR332_0.out) | (with_reducible refine Kd.C_alloc ?_ _) | (with_reducible refine Kd.C_drewN ?_ _) | (with_reducible refine Kd.C_drew ?_) | exact HR332_0.out)⟩, ⟨bwS⟩⟩
      case rest =>
       clear HC11 c8b0 c9b0 hcz14_0 hcz14_1 hfz14_0 hfz14_1 hx332_0 hx332_1 p332 q332; obtain ⟨kq, x57_10, rfl, HA, HJ10, HO_6, HO_7, HO_334000, BK333, HR332_0, HB⟩ := hcut; cases kq with
       | zero => exact absurd HA.out (by simp [bulletinref14_Read.j1])
       | succ kj10 =>
        have H := HA.out; clear HA; simp only [bulletinref14_Read.j1] at H; have HC23 := Aside0.mk H; clear H
        go_upto_if 57 with (fail)
        go_cut [7, 8, 9] (fun v7 v8 v9 wc => ∃ (kq : Nat) (x7_22 : List (S40)) (x8_22 : Bool) (x9_22 : Int) (x334000_22 : List (S113)) (x334001_22 : ByteArray) (u334000 : Value), v8 = .bool x8_22 ∧ v9 = .int .i64 x9_22 ∧ Aside0 (bulletinref14_Read.j4 kq t329 x7_22 x8_22 x9_22 x334000_22 x334001_22 = some (r1, r2)) ∧ Aside0 (kq ≤ kj10) ∧ Aside0 (Kd.S k73 73 wc w.heap.size (fun k_ => k_ ≠ gb333) (.slice (some ad332) t329.length co12) t329) ∧ Aside0 (Kd.R k40 40 wc w.heap.size (fun _ => True) v7 x7_22) ∧ Aside0 (Kd.R k113 113 wc w.heap.size (fun _ => True) u334000 x334000_22) ∧ Aside0 (wc.heap[gb333]? = some (.cells #[u334000, .string x334001_22] 73 (0, 0))) ∧ Aside0 (Below w.heap.size w wc))
        case first =>
         have H := HC23.out; clear HC23
         by_cases c24 : x57_10 = true
         ·subst c24; rw [if_pos rfl] at H
          by_cases c25 : (wrap64 (x9_1 + 1)) < (t329.length : Int)
          ·rw [if_pos c25] at H; have c25b0 := decide_eq_true c25; clear c25
           (first | rw [c25b0] | (simp only [i64_w, i32_w]; rw [c25b0]) | skip)
           obtain ⟨ji26, hji26⟩ : ∃ j_ : Int, (wrap64 (x9_1 + 1)) = j_ := ⟨_, rfl⟩
           replace H : (if 0 ≤ (ji26) then (if (((rd_T73 t329 (ji26)).f0).length : Int) = 0 then (if ((rd_T73 t329 (ji26)).f1).toList = ([59] : List UInt8) then (bulletinref14_Read.j4 kj10 t329 x7_1 true ji26 ((rd_T73 t329 (ji26)).f0) ((rd_T73 t329 (ji26)).f1)) else (bulletinref14_Read.l0 kj10 t329 x7_1 true ji26)) else (bulletinref14_Read.l0 kj10 t329 x7_1 true ji26)) else (none)) = some (r1, r2) := by first | (rw [hji26] at H; exact H) | (simp only [hji26] at H ⊢; exact H)
           (try rw [hji26] at c25b0)
           have hji26w : (IntKind.i64.wrap (x9_1 + 1)) = ji26 := (i64_w _).trans hji26
           by_cases c27 : 0 ≤ (ji26)
           ·rw [if_pos c27] at H; have c27b0 := decide_eq_true c27; clear c27
            by_cases c28 : (((rd_T73 t329 (ji26)).f0).length : Int) = 0
            ·rw [if_pos c28] at H; have c28b0 := beq_iff_eq.mpr c28; have c28b1 := bne_eq_false_iff_eq.mpr c28; clear c28
             by_cases c29 : ((rd_T73 t329 (ji26)).f1).toList = ([59] : List UInt8)
             ·rw [if_pos c29] at H; have c29b0 := beq_iff_eq.mpr c29; have c29b1 := bne_eq_false_iff_eq.mpr c29; clear c29; have H' := Aside0.mk H; clear H; have p336 : 0 ≤ ((ji26) : Int) := od; have q336 : (ji26) < (t329.length : Int) := od; obtain ⟨ad336, A336_0, c336_0, e336, hx336_0, hx336_1, hl336_0, hi336_0⟩ := at_T73 (Kd.S_reads' HO_6.out).2.2 (ji26) p336 q336; obtain rfl : ad332 = ad336 := (by injection e336)
              obtain ⟨ce336, hce336, hMe336, hcc336⟩ := Kd.S_get HO_6.out z73 (ji26) p336 (by first | exact q336 | exact od | (have e_ := (Kd.S_reads' HO_6.out).1; omega)); obtain ⟨ve336_0, rfl, ge336_0⟩ := k73_openM hMe336; have hv336_0 := hcc336 0 _ rfl; rw [Nat.add_zero] at hv336_0; replace hv336_0 := Option.some.inj (hv336_0.symm.trans hx336_0); rw [hv336_0] at ge336_0; have HL336_0 := Aside0.mk (show Kd.R k113 113 _ _ _ _ ((rd_T73 t329 (ji26)).f0) from ge336_0); clear hv336_0 ge336_0 hcc336 hce336; have HR336_0 := Aside0.mk hi336_0; have HC336_0 := Aside0.mk hl336_0; clear hi336_0 hl336_0; replace p336 := eq_true p336; replace q336 := eq_true q336; have p337 : 0 ≤ ((ji26) : Int) := od; have q337 : (ji26) < (t329.length : Int) := od; obtain ⟨ad337, A337_0, c337_0, e337, hx337_0, hx337_1, hl337_0, hi337_0⟩ := at_T73 (Kd.S_reads' HO_6.out).2.2 (ji26) p337 q337; obtain rfl : ad332 = ad337 := (by injection e337)
              obtain ⟨ce337, hce337, hMe337, hcc337⟩ := Kd.S_get HO_6.out z73 (ji26) p337 (by first | exact q337 | exact od | (have e_ := (Kd.S_reads' HO_6.out).1; omega)); obtain ⟨ve337_0, rfl, ge337_0⟩ := k73_openM hMe337; have hv337_0 := hcc337 0 _ rfl; rw [Nat.add_zero] at hv337_0; replace hv337_0 := Option.some.inj (hv337_0.symm.trans hx337_0); rw [hv337_0] at ge337_0; have HL337_0 := Aside0.mk (show Kd.R k113 113 _ _ _ _ ((rd_T73 t329 (ji26)).f0) from ge337_0); clear hv337_0 ge337_0 hcc337 hce337; have HR337_0 := Aside0.mk hi337_0; have HC337_0 := Aside0.mk hl337_0; clear hi337_0 hl337_0; replace p337 := eq_true p337; replace q337 := eq_true q337; have ea_ := Option.some.inj (hx336_0.symm.trans hx337_0)
              injection ea_ with ea_ en_ ec_
              subst ea_; subst ec_; clear en_; have p338 : 0 ≤ ((ji26) : Int) := od; have q338 : (ji26) < (t329.length : Int) := od; obtain ⟨ad338, A338_0, c338_0, e338, hx338_0, hx338_1, hl338_0, hi338_0⟩ := at_T73 (Kd.S_reads' HO_6.out).2.2 (ji26) p338 q338; obtain rfl : ad332 = ad338 := (by injection e338)
              obtain ⟨ce338, hce338, hMe338, hcc338⟩ := Kd.S_get HO_6.out z73 (ji26) p338 (by first | exact q338 | exact od | (have e_ := (Kd.S_reads' HO_6.out).1; omega)); obtain ⟨ve338_0, rfl, ge338_0⟩ := k73_openM hMe338; have hv338_0 := hcc338 0 _ rfl; rw [Nat.add_zero] at hv338_0; replace hv338_0 := Option.some.inj (hv338_0.symm.trans hx338_0); rw [hv338_0] at ge338_0; have HL338_0 := Aside0.mk (show Kd.R k113 113 _ _ _ _ ((rd_T73 t329 (ji26)).f0) from ge338_0); clear hv338_0 ge338_0 hcc338 hce338; have HR338_0 := Aside0.mk hi338_0; have HC338_0 := Aside0.mk hl338_0; clear hi338_0 hl338_0; replace p338 := eq_true p338; replace q338 := eq_true q338; have ea_ := Option.some.inj (hx336_0.symm.trans hx338_0)
              injection ea_ with ea_ en_ ec_
              subst ea_; subst ec_; clear en_; obtain ⟨hcz30_0, hcz30_1, hfz30_0, hfz30_1⟩ := bk2 BK333.out
              as_aux_lemma =>
               go_wp2
               go_meet
               case rel => exact ⟨_, (x7_1), (true), (ji26), ((rd_T73 t329 (ji26)).f0), ((rd_T73 t329 (ji26)).f1), (.slice A336_0 ((rd_T73 t329 (ji26)).f0).length c336_0), cl, (by first | rfl | (simp; done) | (simp only [← hji26] <;> (first | rfl | simp)) | (simp [*]; done) | (simp [nil_ne]; done) | (simp [u8_w, i64w_]; done) | (simp [size_lit]; done) | (simp; unfold wrap64; omega)), H', ⟨by have := HK1.out; have := HJ10.out; first | omega | exact Nat.le_refl _⟩, ⟨sa (Kd.S_mono (Kd.S_far (p := ⟨gb333, 1, none⟩) (Kd.S_far (p := ⟨gb333, 0, none⟩) (Kd.S_mono HO_6.out (fun k_ hk => (⟨hk, hk⟩ : _ ∧ k_ ≠ gb333))) (fun _ hk => hk.2) (.slice A336_0 ((rd_T73 t329 (ji26)).f0).length c336_0)) (fun _ hk => hk.2) (.string ((rd_T73 t329 (ji26)).f1))) (fun _ hk => hk.1))⟩, ⟨by (with_reducible repeat (first | apply Kd.R_alloc | apply Kd.R_drewN | apply Kd.R_drew)); exact Kd.R_mono (Kd.R_far (p := ⟨gb333, 1, none⟩) (Kd.R_far (p := ⟨gb333, 0, none⟩) (Kd.R_types HO_7.out BK333.out (by decide)) (fun _ hk => hk.2) (.slice A336_0 ((rd_T73 t329 (ji26)).f0).length c336_0)) (fun _ hk => hk.2) (.string ((rd_T73 t329 (ji26)).f1))) (fun _ hk => trivial)⟩, ⟨by (with_reducible repeat (first | apply Kd.R_alloc | apply Kd.R_drewN | apply Kd.R_drew)); exact Kd.R_mono (Kd.R_far (p := ⟨gb333, 1, none⟩) (Kd.R_far (p := ⟨gb333, 0, none⟩) (Kd.R_types HL338_0.out BK333.out (by decide)) (fun _ hk => hk.2) (.slice A336_0 ((rd_T73 t329 (ji26)).f0).length c336_0)) (fun _ hk => hk.2) (.string ((rd_T73 t329 (ji26)).f1))) (fun _ hk => trivial)⟩, ⟨by (with_reducible repeat (first | refine blk_drewN ?_ _ | refine blk_drew ?_ | refine blk_alloc ?_ _)); refine blk_put (cs := #[.slice A336_0 ((rd_T73 t329 (ji26)).f0).length c336_0, .string ((rd_T73 t329 x9_1).f1)]) ?_ 1 _ rfl; (with_reducible repeat (first | refine blk_drewN ?_ _ | refine blk_drew ?_ | refine blk_alloc ?_ _)); exact blk_put (cs := #[.slice A332_0 ((rd_T73 t329 x9_1).f0).length c332_0, .string ((rd_T73 t329 x9_1).f1)]) bk 0 _ rfl⟩, ⟨bwS⟩⟩
             rw [if_neg c29] at H; have c29b0 := beq_eq_false_iff_ne.mpr c29; have c29b1 := bne_iff_ne.mpr c29; have H' := Aside0.mk H; clear H; have p336 : 0 ≤ ((ji26) : Int) := od; have q336 : (ji26) < (t329.length : Int) := od; obtain ⟨ad336, A336_0, c336_0, e336, hx336_0, hx336_1, hl336_0, hi336_0⟩ := at_T73 (Kd.S_reads' HO_6.out).2.2 (ji26) p336 q336; obtain rfl : ad332 = ad336 := (by injection e336)
             obtain ⟨ce336, hce336, hMe336, hcc336⟩ := Kd.S_get HO_6.out z73 (ji26) p336 (by first | exact q336 | exact od | (have e_ := (Kd.S_reads' HO_6.out).1; omega)); obtain ⟨ve336_0, rfl, ge336_0⟩ := k73_openM hMe336; have hv336_0 := hcc336 0 _ rfl; rw [Nat.add_zero] at hv336_0; replace hv336_0 := Option.some.inj (hv336_0.symm.trans hx336_0); rw [hv336_0] at ge336_0; have HL336_0 := Aside0.mk (show Kd.R k113 113 _ _ _ _ ((rd_T73 t329 (ji26)).f0) from ge336_0); clear hv336_0 ge336_0 hcc336 hce336; have HR336_0 := Aside0.mk hi336_0; have HC336_0 := Aside0.mk hl336_0; clear hi336_0 hl336_0; replace p336 := eq_true p336; replace q336 := eq_true q336; have p337 : 0 ≤ ((ji26) : Int) := od; have q337 : (ji26) < (t329.length : Int) := od; obtain ⟨ad337, A337_0, c337_0, e337, hx337_0, hx337_1, hl337_0, hi337_0⟩ := at_T73 (Kd.S_reads' HO_6.out).2.2 (ji26) p337 q337; obtain rfl : ad332 = ad337 := (by injection e337)
             obtain ⟨ce337, hce337, hMe337, hcc337⟩ := Kd.S_get HO_6.out z73 (ji26) p337 (by first | exact q337 | exact od | (have e_ := (Kd.S_reads' HO_6.out).1; omega)); obtain ⟨ve337_0, rfl, ge337_0⟩ := k73_openM hMe337; have hv337_0 := hcc337 0 _ rfl; rw [Nat.add_zero] at hv337_0; replace hv337_0 := Option.some.inj (hv337_0.symm.trans hx337_0); rw [hv337_0] at ge337_0; have HL337_0 := Aside0.mk (show Kd.R k113 113 _ _ _ _ ((rd_T73 t329 (ji26)).f0) from ge337_0); clear hv337_0 ge337_0 hcc337 hce337; have HR337_0 := Aside0.mk hi337_0; have HC337_0 := Aside0.mk hl337_0; clear hi337_0 hl337_0; replace p337 := eq_true p337; replace q337 := eq_true q337; have ea_ := Option.some.inj (hx336_0.symm.trans hx337_0)
             injection ea_ with ea_ en_ ec_
             subst ea_; subst ec_; clear en_
             as_aux_lemma =>
              go_wp2
              go_roundg kj10
              case measure => have := HK1.out; have := HJ10.out; omega
              case rel => exact ⟨(x7_1), (true), (ji26), cl, (by first | rfl | (simp; done) | (simp only [← hji26] <;> (first | rfl | simp)) | (simp [*]; done) | (simp [nil_ne]; done) | (simp [u8_w, i64w_]; done) | (simp [size_lit]; done) | (simp; unfold wrap64; omega)), H', ⟨by have := HK1.out; have := HJ10.out; omega⟩, ⟨sa (Kd.S_mono HO_6.out (fun _ hk => trivial))⟩, ⟨ra HO_7.out⟩, ⟨bwS⟩⟩
            rw [if_neg c28] at H; have c28b0 := beq_eq_false_iff_ne.mpr c28; have c28b1 := bne_iff_ne.mpr c28; have c28b2 : ¬ (((rd_T73 t329 (ji26)).f0) = []) := fun h_ => c28 (by rw [h_]; rfl)
            have H' := Aside0.mk H; clear H; have p336 : 0 ≤ ((ji26) : Int) := od; have q336 : (ji26) < (t329.length : Int) := od; obtain ⟨ad336, A336_0, c336_0, e336, hx336_0, hx336_1, hl336_0, hi336_0⟩ := at_T73 (Kd.S_reads' HO_6.out).2.2 (ji26) p336 q336; obtain rfl : ad332 = ad336 := (by injection e336)
            obtain ⟨ce336, hce336, hMe336, hcc336⟩ := Kd.S_get HO_6.out z73 (ji26) p336 (by first | exact q336 | exact od | (have e_ := (Kd.S_reads' HO_6.out).1; omega)); obtain ⟨ve336_0, rfl, ge336_0⟩ := k73_openM hMe336; have hv336_0 := hcc336 0 _ rfl; rw [Nat.add_zero] at hv336_0; replace hv336_0 := Option.some.inj (hv336_0.symm.trans hx336_0); rw [hv336_0] at ge336_0; have HL336_0 := Aside0.mk (show Kd.R k113 113 _ _ _ _ ((rd_T73 t329 (ji26)).f0) from ge336_0); clear hv336_0 ge336_0 hcc336 hce336; have HR336_0 := Aside0.mk hi336_0; have HC336_0 := Aside0.mk hl336_0; clear hi336_0 hl336_0; replace p336 := eq_true p336; replace q336 := eq_true q336
            as_aux_lemma =>
             go_wp2
             go_roundg kj10
             case measure => have := HK1.out; have := HJ10.out; omega
             case rel => exact ⟨(x7_1), (true), (ji26), cl, (by first | rfl | (simp; done) | (simp only [← hji26] <;> (first | rfl | simp)) | (simp [*]; done) | (simp [nil_ne]; done) | (simp [u8_w, i64w_]; done) | (simp [size_lit]; done) | (simp; unfold wrap64; omega)), H', ⟨by have := HK1.out; have := HJ10.out; omega⟩, ⟨sa (Kd.S_mono HO_6.out (fun _ hk => trivial))⟩, ⟨ra HO_7.out⟩, ⟨bwS⟩⟩
           rw [if_neg c27] at H; exact absurd H (by simp)
          rw [if_neg c25] at H; have c25b0 := decide_eq_false c25; clear c25
          (first | rw [c25b0] | (simp only [i64_w, i32_w]; rw [c25b0]) | skip)
          have H' := Aside0.mk H; clear H
          as_aux_lemma =>
           go_wp2
           go_roundg kj10
           case measure => have := HK1.out; have := HJ10.out; omega
           case rel => exact ⟨(x7_1), (true), (wrap64 (x9_1 + 1)), cl, cl, H', ⟨by have := HK1.out; have := HJ10.out; omega⟩, ⟨sa (Kd.S_mono HO_6.out (fun _ hk => trivial))⟩, ⟨ra HO_7.out⟩, ⟨bwS⟩⟩
         replace c24 := Bool.eq_false_iff.mpr c24; subst c24; rw [if_neg nft] at H; have HC31 := Aside0.mk H; clear H
         go_upto_region 18 with (first | ((with_reducible refine gate_dst (N := 13) rfl ?_); (try (refine gate_guard (by rfl) ?_; dsimp only)); refine box_event ?hg (N := 13) ?hd (cs := #[.string (⟨#[]⟩ : ByteArray), .string (⟨#[]⟩ : ByteArray), .string (⟨#[]⟩ : ByteArray)]) (t := 40) ?hr ?_; (case hd => rfl); (case hg => rfl); (case hr => first | (go_simp; done) | (go_simp; rfl)); intro gb339 hg w32 hbox hb; have n0_ := Aside0.mk (Kd.S_below (sa HO_6.out) hb); have n1_ := Aside0.mk (Kd.R_below (Kd.R_elderB (ra HO_7.out) gb339 (Nat.le_of_eq hg.symm)) hb); have n2_ := Aside0.mk (Kd.R_below (ra HO_334000.out) hb); have n3_ := Aside0.mk (blk_below (g := gb333) (o := .cells #[.slice A332_0 ((rd_T73 t329 x9_1).f0).length c332_0, .string ((rd_T73 t329 x9_1).f1)] 73 (0, 0)) bk hb); have n4_ := Aside0.mk (Kd.C_below (by repeat (first | (with_reducible exact HR332_0.out) | (with_reducible refine Kd.C_alloc ?_ _) | (with_reducible refine Kd.C_drewN ?_ _) | (with_reducible refine Kd.C_drew ?_) | exact HR332_0.out)) hb); have n5_ := Aside0.mk (below_step bwS hb); have n6_ := Aside0.mk (hbox); have n7_ := Aside0.mk ((by rw [hg]; exact (below_size bwS) : w.heap.size ≤ gb339)); have n8_ := Aside0.mk ((by rw [hg]; exact (below_size bwS) : w.heap.size ≤ gb339)); have n9_ := Aside0.mk ((by rw [hg]; exact Nat.ne_of_lt (blk_lt (g := gb333) (o := .cells #[.slice A332_0 ((rd_T73 t329 x9_1).f0).length c332_0, .string ((rd_T73 t329 x9_1).f1)] 73 (0, 0)) bk) : gb333 ≠ gb339)); have n10_ := Aside0.mk ((by rw [hg]; exact Nat.ne_of_gt (blk_lt (g := gb333) (o := .cells #[.slice A332_0 ((rd_T73 t329 x9_1).f0).length c332_0, .string ((rd_T73 t329 x9_1).f1)] 73 (0, 0)) bk) : gb339 ≠ gb333)); clear HO_6; clear HO_7; clear HO_334000; clear BK333; clear HR332_0; clear HB; have HO_6 := n0_; have HO_7 := n1_; have HO_334000 := n2_; have BK333 := n3_; have HR332_0 := n4_; have HB := n5_; have BK339 := n6_; have GW339 := n7_; have GE339 := n8_; have NB333_339 := n9_; have NB339_333 := n10_; clear n0_ n1_ n2_ n3_ n4_ n5_ n6_ n7_ n8_ n9_ n10_; clear hb hbox hg; have hnb33 := NB339_333.out; have hnc33 := NB333_339.out; have hcz34_0 : w32.cell? ⟨gb339, 0, none⟩ = some (.string (⟨#[]⟩ : ByteArray)) := (blk_cell BK339.out 0).trans rfl; have hcz34_1 : w32.cell? ⟨gb339, 1, none⟩ = some (.string (⟨#[]⟩ : ByteArray)) := (blk_cell BK339.out 1).trans rfl; have hcz34_2 : w32.cell? ⟨gb339, 2, none⟩ = some (.string (⟨#[]⟩ : ByteArray)) := (blk_cell BK339.out 2).trans rfl; have hfz34_0 := blk_frozen BK339.out 0; have hfz34_1 := blk_frozen BK339.out 1; have hfz34_2 := blk_frozen BK339.out 2))
         (try simp only [Act.put, List.setIfInBounds_toArray, List.set_cons_zero, List.set_cons_succ])
         go_cut [14] (fun v14 wc => ∃ (kq : Nat) (x14_30 : Bool), v14 = .bool x14_30 ∧ Aside0 (bulletinref14_Read.j2 kq t329 x7_1 x8_1 x9_1 t334 x14_30 ((rd_T73 t329 x9_1).f0) ((rd_T73 t329 x9_1).f1) (⟨#[]⟩ : ByteArray) (⟨#[]⟩ : ByteArray) (⟨#[]⟩ : ByteArray) = some (r1, r2)) ∧ Aside0 (kq ≤ kj10) ∧ Aside0 (Kd.S k73 73 wc w.heap.size (fun k_ => k_ ≠ gb333) (.slice (some ad332) t329.length co12) t329) ∧ Aside0 (Kd.R k40 40 wc w.heap.size (fun k_ => k_ ≠ gb339) u7 x7_1) ∧ Aside0 (Kd.R k113 113 wc w.heap.size (fun _ => True) (.slice A332_0 ((rd_T73 t329 x9_1).f0).length c332_0) ((rd_T73 t329 x9_1).f0)) ∧ Aside0 (wc.heap[gb333]? = some (.cells #[(.slice A332_0 ((rd_T73 t329 x9_1).f0).length c332_0), .string ((rd_T73 t329 x9_1).f1)] 73 (0, 0))) ∧ Aside0 (wc.heap[gb339]? = some (.cells #[.string (⟨#[]⟩ : ByteArray), .string (⟨#[]⟩ : ByteArray), .string (⟨#[]⟩ : ByteArray)] 40 (0, 0))) ∧ Aside0 (Below w.heap.size w wc))
         case first =>
          have H := HC31.out; clear HC31
          by_cases c35 : ((rd_T73 t329 x9_1).f1).toList = ([60] : List UInt8)
          ·rw [if_pos c35] at H; have c35b0 := beq_iff_eq.mpr c35; have c35b1 := bne_eq_false_iff_eq.mpr c35; clear c35
           (first | rw [c35b0] | (simp only [i64_w, i32_w]; rw [c35b0]) | skip)
           have H' := Aside0.mk H; clear H; have hnb36 := NB333_339.out; have hnc36 := NB339_333.out; obtain ⟨hcz37_0, hcz37_1, hfz37_0, hfz37_1⟩ := bk2 BK333.out
           as_aux_lemma =>
            go_wp2
            go_meet
            case rel => exact ⟨_, (t335), cl, H', ⟨by have := HK1.out; have := HJ10.out; first | omega | exact Nat.le_refl _⟩, ⟨by (with_reducible repeat (first | apply Kd.S_alloc | apply Kd.S_drewN | apply Kd.S_drew)); exact Kd.S_mono (Kd.S_far (p := ⟨gb339, 2, none⟩) (Kd.S_far (p := ⟨gb339, 1, none⟩) (Kd.S_far (p := ⟨gb339, 0, none⟩) (Kd.S_types HO_6.out BK339.out (by decide)) (fun _ hk => hk.2) (.string (⟨#[]⟩ : ByteArray))) (fun _ hk => hk.2) (.string (⟨#[]⟩ : ByteArray))) (fun _ hk => hk.2) (.string (⟨#[]⟩ : ByteArray))) (fun _ hk => hk.1)⟩, ⟨ra (Kd.R_mono (Kd.R_far (p := ⟨gb339, 2, none⟩) (Kd.R_far (p := ⟨gb339, 1, none⟩) (Kd.R_far (p := ⟨gb339, 0, none⟩) (Kd.R_mono HO_7.out (fun k_ hk => (⟨hk, hk.2⟩ : _ ∧ k_ ≠ gb339))) (fun _ hk => hk.2) (.string (⟨#[]⟩ : ByteArray))) (fun _ hk => hk.2) (.string (⟨#[]⟩ : ByteArray))) (fun _ hk => hk.2) (.string (⟨#[]⟩ : ByteArray))) (fun _ hk => hk.1.2))⟩, ⟨by (with_reducible repeat (first | apply Kd.R_alloc | apply Kd.R_drewN | apply Kd.R_drew)); exact Kd.R_mono (Kd.R_far (p := ⟨gb339, 2, none⟩) (Kd.R_far (p := ⟨gb339, 1, none⟩) (Kd.R_far (p := ⟨gb339, 0, none⟩) (Kd.R_types HO_334000.out BK339.out (by decide)) (fun _ hk => hk.2) (.string (⟨#[]⟩ : ByteArray))) (fun _ hk => hk.2) (.string (⟨#[]⟩ : ByteArray))) (fun _ hk => hk.2) (.string (⟨#[]⟩ : ByteArray))) (fun _ hk => trivial)⟩, ⟨by (with_reducible repeat (first | refine blk_drewN ?_ _ | refine blk_drew ?_ | refine blk_alloc ?_ _)); refine blk_far ?_ NB333_339.out _; (with_reducible repeat (first | refine blk_drewN ?_ _ | refine blk_drew ?_ | refine blk_alloc ?_ _)); refine blk_far ?_ NB333_339.out _; (with_reducible repeat (first | refine blk_drewN ?_ _ | refine blk_drew ?_ | refine blk_alloc ?_ _)); refine blk_far ?_ NB333_339.out _; (with_reducible repeat (first | refine blk_drewN ?_ _ | refine blk_drew ?_ | refine blk_alloc ?_ _)); exact BK333.out⟩, ⟨by (with_reducible repeat (first | refine blk_drewN ?_ _ | refine blk_drew ?_ | refine blk_alloc ?_ _)); refine blk_put (cs := #[.string (⟨#[]⟩ : ByteArray), .string (⟨#[]⟩ : ByteArray), .string (⟨#[]⟩ : ByteArray)]) ?_ 2 _ rfl; (with_reducible repeat (first | refine blk_drewN ?_ _ | refine blk_drew ?_ | refine blk_alloc ?_ _)); refine blk_put (cs := #[.string (⟨#[]⟩ : ByteArray), .string (⟨#[]⟩ : ByteArray), .string (⟨#[]⟩ : ByteArray)]) ?_ 1 _ rfl; (with_reducible repeat (first | refine blk_drewN ?_ _ | refine blk_drew ?_ | refine blk_alloc ?_ _)); exact blk_put (cs := #[.string (⟨#[]⟩ : ByteArray), .string (⟨#[]⟩ : ByteArray), .string (⟨#[]⟩ : ByteArray)]) bk 0 _ rfl⟩, ⟨bwS⟩⟩
          rw [if_neg c35] at H; have c35b0 := beq_eq_false_iff_ne.mpr c35; have c35b1 := bne_iff_ne.mpr c35
          (first | rw [c35b0] | (simp only [i64_w, i32_w]; rw [c35b0]) | skip)
          have H' := Aside0.mk H; clear H; have hnb38 := NB333_339.out; have hnc38 := NB339_333.out; obtain ⟨hcz39_0, hcz39_1, hfz39_0, hfz39_1⟩ := bk2 BK333.out
          as_aux_lemma =>
           go_wp2
           go_meet
           case rel => exact ⟨_, (false), cl, H', ⟨by have := HK1.out; have := HJ10.out; first | omega | exact Nat.le_refl _⟩, ⟨by (with_reducible repeat (first | apply Kd.S_alloc | apply Kd.S_drewN | apply Kd.S_drew)); exact Kd.S_mono (Kd.S_far (p := ⟨gb339, 2, none⟩) (Kd.S_far (p := ⟨gb339, 1, none⟩) (Kd.S_far (p := ⟨gb339, 0, none⟩) (Kd.S_types HO_6.out BK339.out (by decide)) (fun _ hk => hk.2) (.string (⟨#[]⟩ : ByteArray))) (fun _ hk => hk.2) (.string (⟨#[]⟩ : ByteArray))) (fun _ hk => hk.2) (.string (⟨#[]⟩ : ByteArray))) (fun _ hk => hk.1)⟩, ⟨ra (Kd.R_mono (Kd.R_far (p := ⟨gb339, 2, none⟩) (Kd.R_far (p := ⟨gb339, 1, none⟩) (Kd.R_far (p := ⟨gb339, 0, none⟩) (Kd.R_mono HO_7.out (fun k_ hk => (⟨hk, hk.2⟩ : _ ∧ k_ ≠ gb339))) (fun _ hk => hk.2) (.string (⟨#[]⟩ : ByteArray))) (fun _ hk => hk.2) (.string (⟨#[]⟩ : ByteArray))) (fun _ hk => hk.2) (.string (⟨#[]⟩ : ByteArray))) (fun _ hk => hk.1.2))⟩, ⟨by (with_reducible repeat (first | apply Kd.R_alloc | apply Kd.R_drewN | apply Kd.R_drew)); exact Kd.R_mono (Kd.R_far (p := ⟨gb339, 2, none⟩) (Kd.R_far (p := ⟨gb339, 1, none⟩) (Kd.R_far (p := ⟨gb339, 0, none⟩) (Kd.R_types HO_334000.out BK339.out (by decide)) (fun _ hk => hk.2) (.string (⟨#[]⟩ : ByteArray))) (fun _ hk => hk.2) (.string (⟨#[]⟩ : ByteArray))) (fun _ hk => hk.2) (.string (⟨#[]⟩ : ByteArray))) (fun _ hk => trivial)⟩, ⟨by (with_reducible repeat (first | refine blk_drewN ?_ _ | refine blk_drew ?_ | refine blk_alloc ?_ _)); refine blk_far ?_ NB333_339.out _; (with_reducible repeat (first | refine blk_drewN ?_ _ | refine blk_drew ?_ | refine blk_alloc ?_ _)); refine blk_far ?_ NB333_339.out _; (with_reducible repeat (first | refine blk_drewN ?_ _ | refine blk_drew ?_ | refine blk_alloc ?_ _)); refine blk_far ?_ NB333_339.out _; (with_reducible repeat (first | refine blk_drewN ?_ _ | refine blk_drew ?_ | refine blk_alloc ?_ _)); exact BK333.out⟩, ⟨by (with_reducible repeat (first | refine blk_drewN ?_ _ | refine blk_drew ?_ | refine blk_alloc ?_ _)); refine blk_put (cs := #[.string (⟨#[]⟩ : ByteArray), .string (⟨#[]⟩ : ByteArray), .string (⟨#[]⟩ : ByteArray)]) ?_ 2 _ rfl; (with_reducible repeat (first | refine blk_drewN ?_ _ | refine blk_drew ?_ | refine blk_alloc ?_ _)); refine blk_put (cs := #[.string (⟨#[]⟩ : ByteArray), .string (⟨#[]⟩ : ByteArray), .string (⟨#[]⟩ : ByteArray)]) ?_ 1 _ rfl; (with_reducible repeat (first | refine blk_drewN ?_ _ | refine blk_drew ?_ | refine blk_alloc ?_ _)); exact blk_put (cs := #[.string (⟨#[]⟩ : ByteArray), .string (⟨#[]⟩ : ByteArray), .string (⟨#[]⟩ : ByteArray)]) bk 0 _ rfl⟩, ⟨bwS⟩⟩
         case rest =>
          clear HC31 hcz34_0 hcz34_1 hcz34_2 hfz34_0 hfz34_1 hfz34_2; obtain ⟨kq, x14_30, rfl, HA, HJ30, HO_6, HO_7, HO_334000, BK333, BK339, HB⟩ := hcut; cases kq with
          | zero => exact absurd HA.out (by simp [bulletinref14_Read.j2])
          | succ kj30 =>
           have H := HA.out; clear HA; simp only [bulletinref14_Read.j2] at H; have HC40 := Aside0.mk H; clear H
           go_upto_if 95 with (fail)
           go_cut [9] (fun v9 wc => ∃ (kq : Nat) (x9_39 : Int) (x334000_39 : List (S113)) (x334001_39 : ByteArray) (x340000_39 : ByteArray) (u334000 : Value), v9 = .int .i64 x9_39 ∧ Aside0 (bulletinref14_Read.j3 kq t329 x7_1 x8_1 x9_39 x14_30 x334000_39 x334001_39 x340000_39 (⟨#[]⟩ : ByteArray) (⟨#[]⟩ : ByteArray) = some (r1, r2)) ∧ Aside0 (kq ≤ kj30) ∧ Aside0 (Kd.S k73 73 wc w.heap.size (fun k_ => k_ ≠ gb333) (.slice (some ad332) t329.length co12) t329) ∧ Aside0 (Kd.R k40 40 wc w.heap.size (fun k_ => k_ ≠ gb339) u7 x7_1) ∧ Aside0 (Kd.R k113 113 wc w.heap.size (fun _ => True) u334000 x334000_39) ∧ Aside0 (wc.heap[gb333]? = some (.cells #[u334000, .string x334001_39] 73 (0, 0))) ∧ Aside0 (wc.heap[gb339]? = some (.cells #[.string x340000_39, .string (⟨#[]⟩ : ByteArray), .string (⟨#[]⟩ : ByteArray)] 40 (0, 0))) ∧ Aside0 (Below w.heap.size w wc))
           case first =>
            have H := HC40.out; clear HC40
            by_cases c41 : x14_30 = true
            ·subst c41; rw [if_pos rfl] at H; obtain ⟨ji42, hji42⟩ : ∃ j_ : Int, (wrap64 (x9_1 + 1)) = j_ := ⟨_, rfl⟩
             replace H : (if 0 ≤ (ji42) then (if (ji42) < (t329.length : Int) then (bulletinref14_Read.j3 kj30 t329 x7_1 x8_1 ji42 true ((rd_T73 t329 (ji42)).f0) ((rd_T73 t329 (ji42)).f1) t334 (⟨#[]⟩ : ByteArray) (⟨#[]⟩ : ByteArray)) else (none)) else (none)) = some (r1, r2) := by first | (rw [hji42] at H; exact H) | (simp only [hji42] at H ⊢; exact H)
             have hji42w : (IntKind.i64.wrap (x9_1 + 1)) = ji42 := (i64_w _).trans hji42
             by_cases c43 : 0 ≤ (ji42)
             ·rw [if_pos c43] at H; have c43b0 := decide_eq_true c43; clear c43
              (first | rw [c43b0] | (simp only [i64_w, i32_w]; rw [c43b0]) | skip)
              by_cases c44 : (ji42) < (t329.length : Int)
              ·rw [if_pos c44] at H; have c44b0 := decide_eq_true c44; clear c44; have H' := Aside0.mk H; clear H; have p340 : 0 ≤ ((ji42) : Int) := od; have q340 : (ji42) < (t329.length : Int) := od; obtain ⟨ad340, A340_0, c340_0, e340, hx340_0, hx340_1, hl340_0, hi340_0⟩ := at_T73 (Kd.S_reads' HO_6.out).2.2 (ji42) p340 q340; obtain rfl : ad332 = ad340 := (by injection e340)
               obtain ⟨ce340, hce340, hMe340, hcc340⟩ := Kd.S_get HO_6.out z73 (ji42) p340 (by first | exact q340 | exact od | (have e_ := (Kd.S_reads' HO_6.out).1; omega)); obtain ⟨ve340_0, rfl, ge340_0⟩ := k73_openM hMe340; have hv340_0 := hcc340 0 _ rfl; rw [Nat.add_zero] at hv340_0; replace hv340_0 := Option.some.inj (hv340_0.symm.trans hx340_0); rw [hv340_0] at ge340_0; have HL340_0 := Aside0.mk (show Kd.R k113 113 _ _ _ _ ((rd_T73 t329 (ji42)).f0) from ge340_0); clear hv340_0 ge340_0 hcc340 hce340; have HR340_0 := Aside0.mk hi340_0; have HC340_0 := Aside0.mk hl340_0; clear hi340_0 hl340_0; replace p340 := eq_true p340; replace q340 := eq_true q340; have hnb45 := NB333_339.out; have hnc45 := NB339_333.out; obtain ⟨hcz46_0, hcz46_1, hfz46_0, hfz46_1⟩ := bk2 BK333.out; obtain ⟨hcz47_0, hcz47_1, hcz47_2, hfz47_0, hfz47_1, hfz47_2⟩ := bk3 BK339.out
               as_aux_lemma =>
                go_wp2
                go_meet
                case rel => exact ⟨_, (ji42), ((rd_T73 t329 (ji42)).f0), ((rd_T73 t329 (ji42)).f1), (t334), (.slice A340_0 ((rd_T73 t329 (ji42)).f0).length c340_0), (by first | rfl | (simp; done) | (simp only [← hji42] <;> (first | rfl | simp)) | (simp [*]; done) | (simp [nil_ne]; done) | (simp [u8_w, i64w_]; done) | (simp [size_lit]; done) | (simp; unfold wrap64; omega)), H', ⟨by have := HK1.out; have := HJ10.out; have := HJ30.out; first | omega | exact Nat.le_refl _⟩, ⟨by (with_reducible repeat (first | apply Kd.S_alloc | apply Kd.S_drewN | apply Kd.S_drew)); exact Kd.S_mono (Kd.S_far (p := ⟨gb339, 0, none⟩) (Kd.S_far (p := ⟨gb333, 1, none⟩) (Kd.S_far (p := ⟨gb333, 0, none⟩) (Kd.S_types (Kd.S_mono HO_6.out (fun k_ hk => (⟨hk, hk⟩ : _ ∧ k_ ≠ gb333))) BK339.out (by decide)) (fun _ hk => hk.1.2) (.slice A340_0 ((rd_T73 t329 (ji42)).f0).length c340_0)) (fun _ hk => hk.1.2) (.string ((rd_T73 t329 (ji42)).f1))) (fun _ hk => hk.2) (.string t334)) (fun _ hk => hk.1.1)⟩, ⟨by (with_reducible repeat (first | apply Kd.R_alloc | apply Kd.R_drewN | apply Kd.R_drew)); exact Kd.R_mono (Kd.R_far (p := ⟨gb339, 0, none⟩) (Kd.R_far (p := ⟨gb333, 1, none⟩) (Kd.R_far (p := ⟨gb333, 0, none⟩) (Kd.R_mono (Kd.R_types HO_7.out BK333.out (by decide)) (fun k_ hk => (⟨hk, hk.1⟩ : _ ∧ k_ ≠ gb339))) (fun _ hk => hk.1.2) (.slice A340_0 ((rd_T73 t329 (ji42)).f0).length c340_0)) (fun _ hk => hk.1.2) (.string ((rd_T73 t329 (ji42)).f1))) (fun _ hk => hk.2) (.string t334)) (fun _ hk => hk.1.1)⟩, ⟨by (with_reducible repeat (first | apply Kd.R_alloc | apply Kd.R_drewN | apply Kd.R_drew)); exact Kd.R_mono (Kd.R_far (p := ⟨gb339, 0, none⟩) (Kd.R_far (p := ⟨gb333, 1, none⟩) (Kd.R_far (p := ⟨gb333, 0, none⟩) (Kd.R_types (Kd.R_types HL340_0.out BK333.out (by decide)) BK339.out (by decide)) (fun _ hk => hk.1.2) (.slice A340_0 ((rd_T73 t329 (ji42)).f0).length c340_0)) (fun _ hk => hk.1.2) (.string ((rd_T73 t329 (ji42)).f1))) (fun _ hk => hk.2) (.string t334)) (fun _ hk => trivial)⟩, ⟨by (with_reducible repeat (first | refine blk_drewN ?_ _ | refine blk_drew ?_ | refine blk_alloc ?_ _)); refine blk_far ?_ NB333_339.out _; (with_reducible repeat (first | refine blk_drewN ?_ _ | refine blk_drew ?_ | refine blk_alloc ?_ _)); refine blk_put (cs := #[.slice A340_0 ((rd_T73 t329 (ji42)).f0).length c340_0, .string ((rd_T73 t329 x9_1).f1)]) ?_ 1 _ rfl; (with_reducible repeat (first | refine blk_drewN ?_ _ | refine blk_drew ?_ | refine blk_alloc ?_ _)); exact blk_put (cs := #[.slice A332_0 ((rd_T73 t329 x9_1).f0).length c332_0, .string ((rd_T73 t329 x9_1).f1)]) bk 0 _ rfl⟩, ⟨by (with_reducible repeat (first | refine blk_drewN ?_ _ | refine blk_drew ?_ | refine blk_alloc ?_ _)); refine blk_put (cs := #[.string (⟨#[]⟩ : ByteArray), .string (⟨#[]⟩ : ByteArray), .string (⟨#[]⟩ : ByteArray)]) ?_ 0 _ rfl; (with_reducible repeat (first | refine blk_drewN ?_ _ | refine blk_drew ?_ | refine blk_alloc ?_ _)); refine blk_far ?_ NB339_333.out _; (with_reducible repeat (first | refine blk_drewN ?_ _ | refine blk_drew ?_ | refine blk_alloc ?_ _)); refine blk_far ?_ NB339_333.out _; (with_reducible repeat (first | refine blk_drewN ?_ _ | refine blk_drew ?_ | refine blk_alloc ?_ _)); exact BK339.out⟩, ⟨bwS⟩⟩
              rw [if_neg c44] at H; exact absurd H (by simp)
             rw [if_neg c43] at H; exact absurd H (by simp)
            replace c41 := Bool.eq_false_iff.mpr c41; subst c41; rw [if_neg nft] at H; have H' := Aside0.mk H; clear H
            as_aux_lemma =>
             go_wp2
             go_meet
             case rel => exact ⟨_, (x9_1), (((rd_T73 t329 x9_1).f0)), (((rd_T73 t329 x9_1).f1)), ((⟨#[]⟩ : ByteArray)), (.slice A332_0 ((rd_T73 t329 x9_1).f0).length c332_0), cl, H', ⟨by have := HK1.out; have := HJ10.out; have := HJ30.out; first | omega | exact Nat.le_refl _⟩, ⟨sa HO_6.out⟩, ⟨ra HO_7.out⟩, ⟨ra HO_334000.out⟩, ⟨bk⟩, ⟨bk⟩, ⟨bwS⟩⟩
           case rest =>
            clear HC40; obtain ⟨kq, x9_39, x334000_39, x334001_39, x340000_39, u334000, rfl, HA, HJ39, HO_6, HO_7, HO_334000, BK333, BK339, HB⟩ := hcut; cases kq with
            | zero => exact absurd HA.out (by simp [bulletinref14_Read.j3])
            | succ kj39 =>
             have H := HA.out; clear HA; simp only [bulletinref14_Read.j3] at H; replace H := Option.bind_eq_some_iff.mp H; obtain ⟨⟨t341, t342, t343⟩, A480, H⟩ := H; replace H : (if t343 = 0 then (if (x7_1.length : Int) = 100 then (some (([] : List (S40)), 8)) else (if x7_1.length < 2932031007402 then ((some (x7_1 ++ [(⟨x340000_39, (⟨t341, t342⟩ : S38)⟩ : S40)] : List (S40))).bind fun y345 => (if x14_30 = true then (if x334001_39.toList = ([62] : List UInt8) then (if 0 ≤ (wrap64 (x9_39 + 1)) then (if (wrap64 (x9_39 + 1)) < (t329.length : Int) then (if (((rd_T73 t329 (wrap64 (x9_39 + 1))).f0).length : Int) > 0 then (some (([] : List (S40)), 130)) else (bulletinref14_Read.j4 kj39 t329 y345 x8_1 (wrap64 (x9_39 + 1)) ((rd_T73 t329 (wrap64 (x9_39 + 1))).f0) ((rd_T73 t329 (wrap64 (x9_39 + 1))).f1))) else (none)) else (none)) else (some (([] : List (S40)), 130))) else (bulletinref14_Read.j4 kj39 t329 y345 x8_1 x9_39 x334000_39 x334001_39))) else (none))) else (some (([] : List (S40)), t343))) = some (r1, r2) := H; have A48 := Aside0.mk A480; clear A480
             by_cases c49 : t343 = 0
             ·rw [if_pos c49] at H; have c49b0 := beq_iff_eq.mpr c49; have c49b1 := bne_eq_false_iff_eq.mpr c49; clear c49
              by_cases c50 : (x7_1.length : Int) = 100
              ·rw [if_pos c50] at H; have c50b0 := beq_iff_eq.mpr c50; have c50b1 := bne_eq_false_iff_eq.mpr c50; clear c50; simp only [Option.some.injEq, Prod.mk.injEq] at H; obtain ⟨rfl, rfl⟩ := H; have hnb51 := NB333_339.out; have hnc51 := NB339_333.out; obtain ⟨hcz52_0, hcz52_1, hfz52_0, hfz52_1⟩ := bk2 BK333.out; obtain ⟨Ao53, co53, eo53⟩ := Kd.R_slice HO_334000.out; subst eo53
               as_aux_lemma =>
                go_wp2_with (first | ((with_reducible refine gate_callee (f := 39) rfl ?_); refine goesL_ (some 107) rfl rfl Tryd.func39 (by kernel_rfl) rfl #[.slice Ao53 x334000_39.length co53] rfl am ?_; (with_reducible refine (bulletinref13_Of.calls kj39 _ _ x334000_39 t341 t342 t343 _ ?side1 ?side2 A48.out).mono ?_); (case side1 => repeat (first | exact (Kd.R_reads' HO_334000.out).2.2 | (with_reducible refine Kd.C_alloc ?_ _) | (with_reducible refine Kd.C_drewN ?_ _) | (with_reducible refine Kd.C_drew ?_))); (case side2 => exact (Kd.R_reads' HO_334000.out).2.1); rintro e w54 ⟨rfl, hb⟩; refine ⟨_, rfl, ?_⟩; have n0_ := Aside0.mk (Kd.S_below (sa HO_6.out) hb); have n1_ := Aside0.mk (Kd.R_below (ra HO_7.out) hb); have n2_ := Aside0.mk (Kd.R_below (ra HO_334000.out) hb); have n3_ := Aside0.mk (blk_below (g := gb333) (o := .cells #[.slice Ao53 x334000_39.length co53, .string x334001_39] 73 (0, 0)) bk hb); have n4_ := Aside0.mk (blk_below (g := gb339) (o := .cells #[.string x340000_39, .string (⟨#[]⟩ : ByteArray), .string (⟨#[]⟩ : ByteArray)] 40 (0, 0)) bk hb); have n5_ := Aside0.mk (below_step bwS hb); clear HO_6; clear HO_7; clear HO_334000; clear BK333; clear BK339; clear HB; have HO_6 := n0_; have HO_7 := n1_; have HO_334000 := n2_; have BK333 := n3_; have BK339 := n4_; have HB := n5_; clear n0_ n1_ n2_ n3_ n4_ n5_; (try clear hb); (try clear hb2); (try clear hk); (try clear hi)) | ((with_reducible refine gate_dst (N := 15) rfl ?_); (try (refine gate_guard (by rfl) ?_; dsimp only)); refine box_event ?hg (N := 15) ?hd (cs := #[.string (⟨#[]⟩ : ByteArray), .string (⟨#[]⟩ : ByteArray)]) (t := 38) ?hr ?_; (case hd => rfl); (case hg => rfl); (case hr => first | (go_simp; done) | (go_simp; rfl)); intro gb344 hg w55 hbox hb; have n0_ := Aside0.mk (Kd.S_below (sa HO_6.out) hb); have n1_ := Aside0.mk (Kd.R_below (ra HO_7.out) hb); have n2_ := Aside0.mk (Kd.R_below (ra HO_334000.out) hb); have n3_ := Aside0.mk (blk_below (g := gb333) (o := .cells #[.slice Ao53 x334000_39.length co53, .string x334001_39] 73 (0, 0)) bk hb); have n4_ := Aside0.mk (blk_below (g := gb339) (o := .cells #[.string x340000_39, .string (⟨#[]⟩ : ByteArray), .string (⟨#[]⟩ : ByteArray)] 40 (0, 0)) bk hb); have n5_ := Aside0.mk (below_step bwS hb); have n6_ := Aside0.mk (hbox); have n7_ := Aside0.mk ((by rw [hg]; exact (below_size bwS) : w.heap.size ≤ gb344)); have n8_ := Aside0.mk ((by rw [hg]; exact (below_size bwS) : w.heap.size ≤ gb344)); have n9_ := Aside0.mk ((by rw [hg]; exact Nat.ne_of_lt (blk_lt (g := gb333) (o := .cells #[.slice Ao53 x334000_39.length co53, .string x334001_39] 73 (0, 0)) bk) : gb333 ≠ gb344)); have n10_ := Aside0.mk ((by rw [hg]; exact Nat.ne_of_gt (blk_lt (g := gb333) (o := .cells #[.slice Ao53 x334000_39.length co53, .string x334001_39] 73 (0, 0)) bk) : gb344 ≠ gb333)); have n11_ := Aside0.mk ((by rw [hg]; exact Nat.ne_of_lt (blk_lt (g := gb339) (o := .cells #[.string x340000_39, .string (⟨#[]⟩ : ByteArray), .string (⟨#[]⟩ : ByteArray)] 40 (0, 0)) bk) : gb339 ≠ gb344)); have n12_ := Aside0.mk ((by rw [hg]; exact Nat.ne_of_gt (blk_lt (g := gb339) (o := .cells #[.string x340000_39, .string (⟨#[]⟩ : ByteArray), .string (⟨#[]⟩ : ByteArray)] 40 (0, 0)) bk) : gb344 ≠ gb339)); clear HO_6; clear HO_7; clear HO_334000; clear BK333; clear BK339; clear HB; have HO_6 := n0_; have HO_7 := n1_; have HO_334000 := n2_; have BK333 := n3_; have BK339 := n4_; have HB := n5_; have BK344 := n6_; have GW344 := n7_; have GE344 := n8_; have NB333_344 := n9_; have NB344_333 := n10_; have NB339_344 := n11_; have NB344_339 := n12_; clear n0_ n1_ n2_ n3_ n4_ n5_ n6_ n7_ n8_ n9_ n10_ n11_ n12_; clear hb hbox hg; have hnb56 := NB344_333.out; have hnc56 := NB333_344.out; have hnb57 := NB344_339.out; have hnc57 := NB339_344.out; have hcz58_0 : w55.cell? ⟨gb344, 0, none⟩ = some (.string (⟨#[]⟩ : ByteArray)) := (blk_cell BK344.out 0).trans rfl; have hcz58_1 : w55.cell? ⟨gb344, 1, none⟩ = some (.string (⟨#[]⟩ : ByteArray)) := (blk_cell BK344.out 1).trans rfl; have hfz58_0 := blk_frozen BK344.out 0; have hfz58_1 := blk_frozen BK344.out 1; obtain ⟨Ao59, co59, eo59⟩ := Kd.R_slice HO_7.out; subst eo59))
                go_ret2
                exact ⟨_, ew, by first | exact Kd.R_nil _ _ _ _ _ | exact Kd.N_nil _ _ _ _ _ | exact Kd.V_nil _ _ _ _ _ | exact Kd.Q_nil _ _ _ _ _ | exact Kd.S_nil _ _ _ _ _, bwS⟩
              rw [if_neg c50] at H; have c50b0 := beq_eq_false_iff_ne.mpr c50; have c50b1 := bne_iff_ne.mpr c50
              by_cases c60 : x7_1.length < 2932031007402
              ·rw [if_pos c60] at H; have LMc60 := Aside0.mk c60; clear c60; obtain ⟨y345, hy345⟩ : ∃ y_ : List (S40), y_ = (x7_1 ++ [(⟨x340000_39, (⟨t341, t342⟩ : S38)⟩ : S40)]) := ⟨_, rfl⟩
               replace H : (if x14_30 = true then (if x334001_39.toList = ([62] : List UInt8) then (if 0 ≤ (wrap64 (x9_39 + 1)) then (if (wrap64 (x9_39 + 1)) < (t329.length : Int) then (if (((rd_T73 t329 (wrap64 (x9_39 + 1))).f0).length : Int) > 0 then (some (([] : List (S40)), 130)) else (bulletinref14_Read.j4 kj39 t329 y345 x8_1 (wrap64 (x9_39 + 1)) ((rd_T73 t329 (wrap64 (x9_39 + 1))).f0) ((rd_T73 t329 (wrap64 (x9_39 + 1))).f1))) else (none)) else (none)) else (some (([] : List (S40)), 130))) else (bulletinref14_Read.j4 kj39 t329 y345 x8_1 x9_39 x334000_39 x334001_39)) = some (r1, r2) := by first | (rw [hy345]; with_reducible exact H) | (have H2_ := (Option.bind_some _ _).symm.trans H; rw [hy345]; with_reducible exact H2_) | (have H2_ := (Option.bind_some _ _).symm.trans H; with_reducible exact H2_) | with_reducible exact H | (rw [hy345]; exact H) | exact H
               have Ny345 := Aside0.mk hy345; clear hy345
               by_cases c61 : x14_30 = true
               ·subst c61; rw [if_pos rfl] at H
                by_cases c62 : x334001_39.toList = ([62] : List UInt8)
                ·rw [if_pos c62] at H; have c62b0 := beq_iff_eq.mpr c62; have c62b1 := bne_eq_false_iff_eq.mpr c62; clear c62; obtain ⟨ji63, hji63⟩ : ∃ j_ : Int, (wrap64 (x9_39 + 1)) = j_ := ⟨_, rfl⟩
                 replace H : (if 0 ≤ (ji63) then (if (ji63) < (t329.length : Int) then (if (((rd_T73 t329 (ji63)).f0).length : Int) > 0 then (some (([] : List (S40)), 130)) else (bulletinref14_Read.j4 kj39 t329 y345 x8_1 ji63 ((rd_T73 t329 (ji63)).f0) ((rd_T73 t329 (ji63)).f1))) else (none)) else (none)) = some (r1, r2) := by first | (rw [hji63] at H; exact H) | (simp only [hji63] at H ⊢; exact H)
                 (try rw [hji63] at A48)
                 have hji63w : (IntKind.i64.wrap (x9_39 + 1)) = ji63 := (i64_w _).trans hji63
                 by_cases c64 : 0 ≤ (ji63)
                 ·rw [if_pos c64] at H; have c64b0 := decide_eq_true c64; clear c64
                  by_cases c65 : (ji63) < (t329.length : Int)
                  ·rw [if_pos c65] at H; have c65b0 := decide_eq_true c65; clear c65
                   by_cases c66 : (((rd_T73 t329 (ji63)).f0).length : Int) > 0
                   ·rw [if_pos c66] at H; have c66b0 : decide (0 < (((rd_T73 t329 (ji63)).f0).length : Int)) = true := decide_eq_true c66; have c66b1 : decide (0 < ((rd_T73 t329 (ji63)).f0).length) = true := decide_eq_true (by omega); clear c66; simp only [Option.some.injEq, Prod.mk.injEq] at H; obtain ⟨rfl, rfl⟩ := H; have hnb67 := NB333_339.out; have hnc67 := NB339_333.out; obtain ⟨hcz68_0, hcz68_1, hfz68_0, hfz68_1⟩ := bk2 BK333.out; obtain ⟨Ao69, co69, eo69⟩ := Kd.R_slice HO_334000.out; subst eo69
                    as_aux_lemma =>
                     go_wp2_with (first | ((with_reducible refine gate_callee (f := 39) rfl ?_); refine goesL_ (some 107) rfl rfl Tryd.func39 (by kernel_rfl) rfl #[.slice Ao69 x334000_39.length co69] rfl am ?_; (with_reducible refine (bulletinref13_Of.calls kj39 _ _ x334000_39 t341 t342 t343 _ ?side1 ?side2 A48.out).mono ?_); (case side1 => repeat (first | exact (Kd.R_reads' HO_334000.out).2.2 | (with_reducible refine Kd.C_alloc ?_ _) | (with_reducible refine Kd.C_drewN ?_ _) | (with_reducible refine Kd.C_drew ?_))); (case side2 => exact (Kd.R_reads' HO_334000.out).2.1); rintro e w70 ⟨rfl, hb⟩; refine ⟨_, rfl, ?_⟩; have n0_ := Aside0.mk (Kd.S_below (sa HO_6.out) hb); have n1_ := Aside0.mk (Kd.R_below (ra HO_7.out) hb); have n2_ := Aside0.mk (Kd.R_below (ra HO_334000.out) hb); have n3_ := Aside0.mk (blk_below (g := gb333) (o := .cells #[.slice Ao69 x334000_39.length co69, .string x334001_39] 73 (0, 0)) bk hb); have n4_ := Aside0.mk (blk_below (g := gb339) (o := .cells #[.string x340000_39, .string (⟨#[]⟩ : ByteArray), .string (⟨#[]⟩ : ByteArray)] 40 (0, 0)) bk hb); have n5_ := Aside0.mk (below_step bwS hb); clear HO_6; clear HO_7; clear HO_334000; clear BK333; clear BK339; clear HB; have HO_6 := n0_; have HO_7 := n1_; have HO_334000 := n2_; have BK333 := n3_; have BK339 := n4_; have HB := n5_; clear n0_ n1_ n2_ n3_ n4_ n5_; (try clear hb); (try clear hb2); (try clear hk); (try clear hi)) | ((with_reducible refine gate_dst (N := 15) rfl ?_); (try (refine gate_guard (by rfl) ?_; dsimp only)); refine box_event ?hg (N := 15) ?hd (cs := #[.string (⟨#[]⟩ : ByteArray), .string (⟨#[]⟩ : ByteArray)]) (t := 38) ?hr ?_; (case hd => rfl); (case hg => rfl); (case hr => first | (go_simp; done) | (go_simp; rfl)); intro gb344 hg w71 hbox hb; have n0_ := Aside0.mk (Kd.S_below (sa HO_6.out) hb); have n1_ := Aside0.mk (Kd.R_below (ra HO_7.out) hb); have n2_ := Aside0.mk (Kd.R_below (ra HO_334000.out) hb); have n3_ := Aside0.mk (blk_below (g := gb333) (o := .cells #[.slice Ao69 x334000_39.length co69, .string x334001_39] 73 (0, 0)) bk hb); have n4_ := Aside0.mk (blk_below (g := gb339) (o := .cells #[.string x340000_39, .string (⟨#[]⟩ : ByteArray), .string (⟨#[]⟩ : ByteArray)] 40 (0, 0)) bk hb); have n5_ := Aside0.mk (below_step bwS hb); have n6_ := Aside0.mk (hbox); have n7_ := Aside0.mk ((by rw [hg]; exact (below_size bwS) : w.heap.size ≤ gb344)); have n8_ := Aside0.mk ((by rw [hg]; exact (below_size bwS) : w.heap.size ≤ gb344)); have n9_ := Aside0.mk ((by rw [hg]; exact Nat.ne_of_lt (blk_lt (g := gb333) (o := .cells #[.slice Ao69 x334000_39.length co69, .string x334001_39] 73 (0, 0)) bk) : gb333 ≠ gb344)); have n10_ := Aside0.mk ((by rw [hg]; exact Nat.ne_of_gt (blk_lt (g := gb333) (o := .cells #[.slice Ao69 x334000_39.length co69, .string x334001_39] 73 (0, 0)) bk) : gb344 ≠ gb333)); have n11_ := Aside0.mk ((by rw [hg]; exact Nat.ne_of_lt (blk_lt (g := gb339) (o := .cells #[.string x340000_39, .string (⟨#[]⟩ : ByteArray), .string (⟨#[]⟩ : ByteArray)] 40 (0, 0)) bk) : gb339 ≠ gb344)); have n12_ := Aside0.mk ((by rw [hg]; exact Nat.ne_of_gt (blk_lt (g := gb339) (o := .cells #[.string x340000_39, .string (⟨#[]⟩ : ByteArray), .string (⟨#[]⟩ : ByteArray)] 40 (0, 0)) bk) : gb344 ≠ gb339)); clear HO_6; clear HO_7; clear HO_334000; clear BK333; clear BK339; clear HB; have HO_6 := n0_; have HO_7 := n1_; have HO_334000 := n2_; have BK333 := n3_; have BK339 := n4_; have HB := n5_; have BK344 := n6_; have GW344 := n7_; have GE344 := n8_; have NB333_344 := n9_; have NB344_333 := n10_; have NB339_344 := n11_; have NB344_339 := n12_; clear n0_ n1_ n2_ n3_ n4_ n5_ n6_ n7_ n8_ n9_ n10_ n11_ n12_; clear hb hbox hg; have hnb72 := NB344_333.out; have hnc72 := NB333_344.out; have hnb73 := NB344_339.out; have hnc73 := NB339_344.out; have hcz74_0 : w71.cell? ⟨gb344, 0, none⟩ = some (.string (⟨#[]⟩ : ByteArray)) := (blk_cell BK344.out 0).trans rfl; have hcz74_1 : w71.cell? ⟨gb344, 1, none⟩ = some (.string (⟨#[]⟩ : ByteArray)) := (blk_cell BK344.out 1).trans rfl; have hfz74_0 := blk_frozen BK344.out 0; have hfz74_1 := blk_frozen BK344.out 1; obtain ⟨Ao75, co75, eo75⟩ := Kd.R_slice HO_7.out; subst eo75; have hcz76_0 : w71.cell? ⟨gb339, 0, none⟩ = some (.string x340000_39) := (blk_cell BK339.out 0).trans rfl; have hcz76_1 : w71.cell? ⟨gb339, 1, none⟩ = some (.string (⟨#[]⟩ : ByteArray)) := (blk_cell BK339.out 1).trans rfl; have hcz76_2 : w71.cell? ⟨gb339, 2, none⟩ = some (.string (⟨#[]⟩ : ByteArray)) := (blk_cell BK339.out 2).trans rfl; have hfz76_0 := blk_frozen BK339.out 0; have hfz76_1 := blk_frozen BK339.out 1; have hfz76_2 := blk_frozen BK339.out 2) | ((with_reducible refine gate_builtin (b := .append) (xs := #[.tmp 118, .tmp 120]) rfl ?_); (try (refine gate_guard (by rfl) ?_; dsimp only)); at_builtin; refine Kd.R_append k40 (w0 := w) w.heap.size rfl (.tmp 118) (.tmp 120) 27 40 (.agg #[(.string ⟨#[]⟩), (.string ⟨#[]⟩), (.string ⟨#[]⟩)]) 48 rfl Tryd.underlying27 info40 rfl (by decide) (by omega) (.slice Ao75 x7_1.length co75) x7_1 (⟨x340000_39, (⟨t341, t342⟩ : S38)⟩ : S40) [.string x340000_39, .string t341, .string t342] (fun k_ => k_ ≠ gb339) (fun _ => False) rfl (by first | (go_simp; done) | (go_simp; rfl)) ?aP (fun _ hk => hk.elim) ?aF ?aO ?aB ?aS ?aL ?_; (case aP => exact k40_mkM _ _ _ (⟨x340000_39, (⟨t341, t342⟩ : S38)⟩ : S40)); (case aB => exact bwS); (case aF => exact (fun k_ hk => Kd.freshB (g := gb339) (o := .cells #[.string x340000_39, .string t341, .string t342] 40 (0, 0)) (by (with_reducible repeat (first | refine blk_drewN ?_ _ | refine blk_drew ?_ | refine blk_alloc ?_ _)); refine blk_put (cs := #[.string x340000_39, .string t341, .string (⟨#[]⟩ : ByteArray)]) ?_ 2 _ rfl; (with_reducible repeat (first | refine blk_drewN ?_ _ | refine blk_drew ?_ | refine blk_alloc ?_ _)); refine blk_put (cs := #[.string x340000_39, .string (⟨#[]⟩ : ByteArray), .string (⟨#[]⟩ : ByteArray)]) ?_ 1 _ rfl; (with_reducible repeat (first | refine blk_drewN ?_ _ | refine blk_drew ?_ | refine blk_alloc ?_ _)); refine blk_far ?_ NB339_344.out _; (with_reducible repeat (first | refine blk_drewN ?_ _ | refine blk_drew ?_ | refine blk_alloc ?_ _)); refine blk_far ?_ NB339_344.out _; (with_reducible repeat (first | refine blk_drewN ?_ _ | refine blk_drew ?_ | refine blk_alloc ?_ _)); exact BK339.out) k_ hk)); (case aO => exact (by (with_reducible repeat (first | apply Kd.R_alloc | apply Kd.R_drewN | apply Kd.R_drew)); exact Kd.R_mono (Kd.R_far (p := ⟨gb339, 2, none⟩) (Kd.R_far (p := ⟨gb339, 1, none⟩) (Kd.R_far (p := ⟨gb344, 1, none⟩) (Kd.R_far (p := ⟨gb344, 0, none⟩) (Kd.R_mono (Kd.R_types HO_7.out BK344.out (by decide)) (fun k_ hk => (⟨hk, hk.1⟩ : _ ∧ k_ ≠ gb339))) (fun _ hk => hk.1.2) (.string t341)) (fun _ hk => hk.1.2) (.string t342)) (fun _ hk => hk.2) (.string t341)) (fun _ hk => hk.2) (.string t342)) (fun _ hk => hk.1.1))); (case aS => exact (below_size bwS)); (case aL => have := LMc60.out; omega); intro v346 w77 ho hb hg hat; rw [← Ny345.out] at ho; have n0_ := Aside0.mk (Kd.S_over' (by (with_reducible repeat (first | apply Kd.S_alloc | apply Kd.S_drewN | apply Kd.S_drew)); exact (Kd.S_mono (Kd.S_mono (Kd.S_far (p := ⟨gb339, 2, none⟩) (Kd.S_far (p := ⟨gb339, 1, none⟩) (Kd.S_far (p := ⟨gb344, 1, none⟩) (Kd.S_far (p := ⟨gb344, 0, none⟩) (Kd.S_types (Kd.S_types HO_6.out BK344.out (by decide)) BK339.out (by decide)) (fun _ hk => hk.1.2) (.string t341)) (fun _ hk => hk.1.2) (.string t342)) (fun _ hk => hk.2) (.string t341)) (fun _ hk => hk.2) (.string t342)) (fun _ h_ => h_.1)) (fun _ h_ => h_.1))) (Kd.R_typed (by (with_reducible repeat (first | apply Kd.R_alloc | apply Kd.R_drewN | apply Kd.R_drew)); exact (Kd.R_mono (Kd.R_mono (Kd.R_far (p := ⟨gb339, 2, none⟩) (Kd.R_far (p := ⟨gb339, 1, none⟩) (Kd.R_far (p := ⟨gb344, 1, none⟩) (Kd.R_far (p := ⟨gb344, 0, none⟩) (Kd.R_mono (Kd.R_types HO_7.out BK344.out (by decide)) (fun k_ hk => (⟨hk, hk.1⟩ : _ ∧ k_ ≠ gb339))) (fun _ hk => hk.1.2) (.string t341)) (fun _ hk => hk.1.2) (.string t342)) (fun _ hk => hk.2) (.string t341)) (fun _ hk => hk.2) (.string t342)) (fun _ h_ => h_.1)) (fun _ h_ => h_.1)))) (by decide) hg); have n1_ := Aside0.mk (Kd.R_over' (by (with_reducible repeat (first | apply Kd.R_alloc | apply Kd.R_drewN | apply Kd.R_drew)); exact (Kd.R_mono (Kd.R_mono (Kd.R_far (p := ⟨gb339, 2, none⟩) (Kd.R_far (p := ⟨gb339, 1, none⟩) (Kd.R_far (p := ⟨gb344, 1, none⟩) (Kd.R_far (p := ⟨gb344, 0, none⟩) (Kd.R_types (Kd.R_types HO_334000.out BK344.out (by decide)) BK339.out (by decide)) (fun _ hk => hk.1.2) (.string t341)) (fun _ hk => hk.1.2) (.string t342)) (fun _ hk => hk.2) (.string t341)) (fun _ hk => hk.2) (.string t342)) (fun _ h_ => h_.1)) (fun _ h_ => h_.1))) (Kd.R_typed (by (with_reducible repeat (first | apply Kd.R_alloc | apply Kd.R_drewN | apply Kd.R_drew)); exact (Kd.R_mono (Kd.R_mono (Kd.R_far (p := ⟨gb339, 2, none⟩) (Kd.R_far (p := ⟨gb339, 1, none⟩) (Kd.R_far (p := ⟨gb344, 1, none⟩) (Kd.R_far (p := ⟨gb344, 0, none⟩) (Kd.R_mono (Kd.R_types HO_7.out BK344.out (by decide)) (fun k_ hk => (⟨hk, hk.1⟩ : _ ∧ k_ ≠ gb339))) (fun _ hk => hk.1.2) (.string t341)) (fun _ hk => hk.1.2) (.string t342)) (fun _ hk => hk.2) (.string t341)) (fun _ hk => hk.2) (.string t342)) (fun _ h_ => h_.1)) (fun _ h_ => h_.1)))) (by decide) hg); have n2_ := Aside0.mk (blk_grown (g := gb333) (o := .cells #[.slice Ao69 x334000_39.length co69, .string x334001_39] 73 (0, 0)) (by (with_reducible repeat (first | refine blk_drewN ?_ _ | refine blk_drew ?_ | refine blk_alloc ?_ _)); refine blk_far ?_ NB333_339.out _; (with_reducible repeat (first | refine blk_drewN ?_ _ | refine blk_drew ?_ | refine blk_alloc ?_ _)); refine blk_far ?_ NB333_339.out _; (with_reducible repeat (first | refine blk_drewN ?_ _ | refine blk_drew ?_ | refine blk_alloc ?_ _)); refine blk_far ?_ NB333_344.out _; (with_reducible repeat (first | refine blk_drewN ?_ _ | refine blk_drew ?_ | refine blk_alloc ?_ _)); refine blk_far ?_ NB333_344.out _; (with_reducible repeat (first | refine blk_drewN ?_ _ | refine blk_drew ?_ | refine blk_alloc ?_ _)); exact BK333.out) hg (Kd.R_ne HO_7.out BK333.out (by decide))); have n3_ := Aside0.mk (blk_grown (g := gb339) (o := .cells #[.string x340000_39, .string t341, .string t342] 40 (0, 0)) (by (with_reducible repeat (first | refine blk_drewN ?_ _ | refine blk_drew ?_ | refine blk_alloc ?_ _)); refine blk_put (cs := #[.string x340000_39, .string t341, .string (⟨#[]⟩ : ByteArray)]) ?_ 2 _ rfl; (with_reducible repeat (first | refine blk_drewN ?_ _ | refine blk_drew ?_ | refine blk_alloc ?_ _)); refine blk_put (cs := #[.string x340000_39, .string (⟨#[]⟩ : ByteArray), .string (⟨#[]⟩ : ByteArray)]) ?_ 1 _ rfl; (with_reducible repeat (first | refine blk_drewN ?_ _ | refine blk_drew ?_ | refine blk_alloc ?_ _)); refine blk_far ?_ NB339_344.out _; (with_reducible repeat (first | refine blk_drewN ?_ _ | refine blk_drew ?_ | refine blk_alloc ?_ _)); refine blk_far ?_ NB339_344.out _; (with_reducible repeat (first | refine blk_drewN ?_ _ | refine blk_drew ?_ | refine blk_alloc ?_ _)); exact BK339.out) hg (Kd.R_away HO_7.out (fun _ hk => hk))); have n4_ := Aside0.mk (blk_grown (g := gb344) (o := .cells #[.string t341, .string t342] 38 (0, 0)) (by (with_reducible repeat (first | refine blk_drewN ?_ _ | refine blk_drew ?_ | refine blk_alloc ?_ _)); refine blk_far ?_ NB344_339.out _; (with_reducible repeat (first | refine blk_drewN ?_ _ | refine blk_drew ?_ | refine blk_alloc ?_ _)); refine blk_far ?_ NB344_339.out _; (with_reducible repeat (first | refine blk_drewN ?_ _ | refine blk_drew ?_ | refine blk_alloc ?_ _)); refine blk_put (cs := #[.string t341, .string (⟨#[]⟩ : ByteArray)]) ?_ 1 _ rfl; (with_reducible repeat (first | refine blk_drewN ?_ _ | refine blk_drew ?_ | refine blk_alloc ?_ _)); exact blk_put (cs := #[.string (⟨#[]⟩ : ByteArray), .string (⟨#[]⟩ : ByteArray)]) bk 0 _ rfl) hg (Kd.R_ne HO_7.out BK344.out (by decide))); have n5_ := Aside0.mk (hb); have n6_ := Aside0.mk (ho); clear HO_6; clear HO_334000; clear BK333; clear BK339; clear BK344; clear HB; clear HO_7; have HO_6 := n0_; have HO_334000 := n1_; have BK333 := n2_; have BK339 := n3_; have BK344 := n4_; have HB := n5_; have HO347 := n6_; clear n0_ n1_ n2_ n3_ n4_ n5_ n6_; clear ho hb hg hat; have hcz78_0 : w77.cell? ⟨gb333, 0, none⟩ = some (.slice Ao69 x334000_39.length co69) := (blk_cell BK333.out 0).trans rfl; have hcz78_1 : w77.cell? ⟨gb333, 1, none⟩ = some (.string x334001_39) := (blk_cell BK333.out 1).trans rfl; have hfz78_0 := blk_frozen BK333.out 0; have hfz78_1 := blk_frozen BK333.out 1; have p348 : 0 ≤ ((ji63) : Int) := od; have q348 : (ji63) < (t329.length : Int) := od; obtain ⟨ad348, A348_0, c348_0, e348, hx348_0, hx348_1, hl348_0, hi348_0⟩ := at_T73 (Kd.S_reads' HO_6.out).2.2 (ji63) p348 q348; obtain rfl : ad332 = ad348 := (by injection e348); obtain ⟨ce348, hce348, hMe348, hcc348⟩ := Kd.S_get HO_6.out z73 (ji63) p348 (by first | exact q348 | exact od | (have e_ := (Kd.S_reads' HO_6.out).1; omega)); obtain ⟨ve348_0, rfl, ge348_0⟩ := k73_openM hMe348; have hv348_0 := hcc348 0 _ rfl; rw [Nat.add_zero] at hv348_0; replace hv348_0 := Option.some.inj (hv348_0.symm.trans hx348_0); rw [hv348_0] at ge348_0; have HL348_0 := Aside0.mk (show Kd.R k113 113 _ _ _ _ ((rd_T73 t329 (ji63)).f0) from ge348_0); clear hv348_0 ge348_0; clear hcc348 hce348; have HR348_0 := Aside0.mk hi348_0; have HC348_0 := Aside0.mk hl348_0; clear hi348_0 hl348_0; replace p348 := eq_true p348; replace q348 := eq_true q348))
                     go_ret2
                     exact ⟨_, by first | rfl | (simp [errW_none, errW_some] <;> rfl) | (simp only [← hji63]; first | rfl | (simp [errW_none, errW_some] <;> rfl)) | (simp [*, errW_none, errW_some] <;> rfl), by first | exact Kd.R_nil _ _ _ _ _ | exact Kd.N_nil _ _ _ _ _ | exact Kd.V_nil _ _ _ _ _ | exact Kd.Q_nil _ _ _ _ _ | exact Kd.S_nil _ _ _ _ _, bwS⟩
                   rw [if_neg c66] at H; have c66b0 : decide (0 < (((rd_T73 t329 (ji63)).f0).length : Int)) = false := decide_eq_false c66; have c66b1 : decide (0 < ((rd_T73 t329 (ji63)).f0).length) = false := decide_eq_false (by omega); clear c66; have H' := Aside0.mk H; clear H; have hnb79 := NB333_339.out; have hnc79 := NB339_333.out; obtain ⟨hcz80_0, hcz80_1, hfz80_0, hfz80_1⟩ := bk2 BK333.out; obtain ⟨Ao81, co81, eo81⟩ := Kd.R_slice HO_334000.out; subst eo81
                   as_aux_lemma =>
                    go_wp2_with (first | ((with_reducible refine gate_callee (f := 39) rfl ?_); refine goesL_ (some 107) rfl rfl Tryd.func39 (by kernel_rfl) rfl #[.slice Ao81 x334000_39.length co81] rfl am ?_; (with_reducible refine (bulletinref13_Of.calls kj39 _ _ x334000_39 t341 t342 t343 _ ?side1 ?side2 A48.out).mono ?_); (case side1 => repeat (first | exact (Kd.R_reads' HO_334000.out).2.2 | (with_reducible refine Kd.C_alloc ?_ _) | (with_reducible refine Kd.C_drewN ?_ _) | (with_reducible refine Kd.C_drew ?_))); (case side2 => exact (Kd.R_reads' HO_334000.out).2.1); rintro e w82 ⟨rfl, hb⟩; refine ⟨_, rfl, ?_⟩; have n0_ := Aside0.mk (Kd.S_below (sa HO_6.out) hb); have n1_ := Aside0.mk (Kd.R_below (ra HO_7.out) hb); have n2_ := Aside0.mk (Kd.R_below (ra HO_334000.out) hb); have n3_ := Aside0.mk (blk_below (g := gb333) (o := .cells #[.slice Ao81 x334000_39.length co81, .string x334001_39] 73 (0, 0)) bk hb); have n4_ := Aside0.mk (blk_below (g := gb339) (o := .cells #[.string x340000_39, .string (⟨#[]⟩ : ByteArray), .string (⟨#[]⟩ : ByteArray)] 40 (0, 0)) bk hb); have n5_ := Aside0.mk (below_step bwS hb); clear HO_6; clear HO_7; clear HO_334000; clear BK333; clear BK339; clear HB; have HO_6 := n0_; have HO_7 := n1_; have HO_334000 := n2_; have BK333 := n3_; have BK339 := n4_; have HB := n5_; clear n0_ n1_ n2_ n3_ n4_ n5_; (try clear hb); (try clear hb2); (try clear hk); (try clear hi)) | ((with_reducible refine gate_dst (N := 15) rfl ?_); (try (refine gate_guard (by rfl) ?_; dsimp only)); refine box_event ?hg (N := 15) ?hd (cs := #[.string (⟨#[]⟩ : ByteArray), .string (⟨#[]⟩ : ByteArray)]) (t := 38) ?hr ?_; (case hd => rfl); (case hg => rfl); (case hr => first | (go_simp; done) | (go_simp; rfl)); intro gb344 hg w83 hbox hb; have n0_ := Aside0.mk (Kd.S_below (sa HO_6.out) hb); have n1_ := Aside0.mk (Kd.R_below (ra HO_7.out) hb); have n2_ := Aside0.mk (Kd.R_below (ra HO_334000.out) hb); have n3_ := Aside0.mk (blk_below (g := gb333) (o := .cells #[.slice Ao81 x334000_39.length co81, .string x334001_39] 73 (0, 0)) bk hb); have n4_ := Aside0.mk (blk_below (g := gb339) (o := .cells #[.string x340000_39, .string (⟨#[]⟩ : ByteArray), .string (⟨#[]⟩ : ByteArray)] 40 (0, 0)) bk hb); have n5_ := Aside0.mk (below_step bwS hb); have n6_ := Aside0.mk (hbox); have n7_ := Aside0.mk ((by rw [hg]; exact (below_size bwS) : w.heap.size ≤ gb344)); have n8_ := Aside0.mk ((by rw [hg]; exact (below_size bwS) : w.heap.size ≤ gb344)); have n9_ := Aside0.mk ((by rw [hg]; exact Nat.ne_of_lt (blk_lt (g := gb333) (o := .cells #[.slice Ao81 x334000_39.length co81, .string x334001_39] 73 (0, 0)) bk) : gb333 ≠ gb344)); have n10_ := Aside0.mk ((by rw [hg]; exact Nat.ne_of_gt (blk_lt (g := gb333) (o := .cells #[.slice Ao81 x334000_39.length co81, .string x334001_39] 73 (0, 0)) bk) : gb344 ≠ gb333)); have n11_ := Aside0.mk ((by rw [hg]; exact Nat.ne_of_lt (blk_lt (g := gb339) (o := .cells #[.string x340000_39, .string (⟨#[]⟩ : ByteArray), .string (⟨#[]⟩ : ByteArray)] 40 (0, 0)) bk) : gb339 ≠ gb344)); have n12_ := Aside0.mk ((by rw [hg]; exact Nat.ne_of_gt (blk_lt (g := gb339) (o := .cells #[.string x340000_39, .string (⟨#[]⟩ : ByteArray), .string (⟨#[]⟩ : ByteArray)] 40 (0, 0)) bk) : gb344 ≠ gb339)); clear HO_6; clear HO_7; clear HO_334000; clear BK333; clear BK339; clear HB; have HO_6 := n0_; have HO_7 := n1_; have HO_334000 := n2_; have BK333 := n3_; have BK339 := n4_; have HB := n5_; have BK344 := n6_; have GW344 := n7_; have GE344 := n8_; have NB333_344 := n9_; have NB344_333 := n10_; have NB339_344 := n11_; have NB344_339 := n12_; clear n0_ n1_ n2_ n3_ n4_ n5_ n6_ n7_ n8_ n9_ n10_ n11_ n12_; clear hb hbox hg; have hnb84 := NB344_333.out; have hnc84 := NB333_344.out; have hnb85 := NB344_339.out; have hnc85 := NB339_344.out; have hcz86_0 : w83.cell? ⟨gb344, 0, none⟩ = some (.string (⟨#[]⟩ : ByteArray)) := (blk_cell BK344.out 0).trans rfl; have hcz86_1 : w83.cell? ⟨gb344, 1, none⟩ = some (.string (⟨#[]⟩ : ByteArray)) := (blk_cell BK344.out 1).trans rfl; have hfz86_0 := blk_frozen BK344.out 0; have hfz86_1 := blk_frozen BK344.out 1; obtain ⟨Ao87, co87, eo87⟩ := Kd.R_slice HO_7.out; subst eo87; have hcz88_0 : w83.cell? ⟨gb339, 0, none⟩ = some (.string x340000_39) := (blk_cell BK339.out 0).trans rfl; have hcz88_1 : w83.cell? ⟨gb339, 1, none⟩ = some (.string (⟨#[]⟩ : ByteArray)) := (blk_cell BK339.out 1).trans rfl; have hcz88_2 : w83.cell? ⟨gb339, 2, none⟩ = some (.string (⟨#[]⟩ : ByteArray)) := (blk_cell BK339.out 2).trans rfl; have hfz88_0 := blk_frozen BK339.out 0; have hfz88_1 := blk_frozen BK339.out 1; have hfz88_2 := blk_frozen BK339.out 2) | ((with_reducible refine gate_builtin (b := .append) (xs := #[.tmp 118, .tmp 120]) rfl ?_); (try (refine gate_guard (by rfl) ?_; dsimp only)); at_builtin; refine Kd.R_append k40 (w0 := w) w.heap.size rfl (.tmp 118) (.tmp 120) 27 40 (.agg #[(.string ⟨#[]⟩), (.string ⟨#[]⟩), (.string ⟨#[]⟩)]) 48 rfl Tryd.underlying27 info40 rfl (by decide) (by omega) (.slice Ao87 x7_1.length co87) x7_1 (⟨x340000_39, (⟨t341, t342⟩ : S38)⟩ : S40) [.string x340000_39, .string t341, .string t342] (fun k_ => k_ ≠ gb339) (fun _ => False) rfl (by first | (go_simp; done) | (go_simp; rfl)) ?aP (fun _ hk => hk.elim) ?aF ?aO ?aB ?aS ?aL ?_; (case aP => exact k40_mkM _ _ _ (⟨x340000_39, (⟨t341, t342⟩ : S38)⟩ : S40)); (case aB => exact bwS); (case aF => exact (fun k_ hk => Kd.freshB (g := gb339) (o := .cells #[.string x340000_39, .string t341, .string t342] 40 (0, 0)) (by (with_reducible repeat (first | refine blk_drewN ?_ _ | refine blk_drew ?_ | refine blk_alloc ?_ _)); refine blk_put (cs := #[.string x340000_39, .string t341, .string (⟨#[]⟩ : ByteArray)]) ?_ 2 _ rfl; (with_reducible repeat (first | refine blk_drewN ?_ _ | refine blk_drew ?_ | refine blk_alloc ?_ _)); refine blk_put (cs := #[.string x340000_39, .string (⟨#[]⟩ : ByteArray), .string (⟨#[]⟩ : ByteArray)]) ?_ 1 _ rfl; (with_reducible repeat (first | refine blk_drewN ?_ _ | refine blk_drew ?_ | refine blk_alloc ?_ _)); refine blk_far ?_ NB339_344.out _; (with_reducible repeat (first | refine blk_drewN ?_ _ | refine blk_drew ?_ | refine blk_alloc ?_ _)); refine blk_far ?_ NB339_344.out _; (with_reducible repeat (first | refine blk_drewN ?_ _ | refine blk_drew ?_ | refine blk_alloc ?_ _)); exact BK339.out) k_ hk)); (case aO => exact (by (with_reducible repeat (first | apply Kd.R_alloc | apply Kd.R_drewN | apply Kd.R_drew)); exact Kd.R_mono (Kd.R_far (p := ⟨gb339, 2, none⟩) (Kd.R_far (p := ⟨gb339, 1, none⟩) (Kd.R_far (p := ⟨gb344, 1, none⟩) (Kd.R_far (p := ⟨gb344, 0, none⟩) (Kd.R_mono (Kd.R_types HO_7.out BK344.out (by decide)) (fun k_ hk => (⟨hk, hk.1⟩ : _ ∧ k_ ≠ gb339))) (fun _ hk => hk.1.2) (.string t341)) (fun _ hk => hk.1.2) (.string t342)) (fun _ hk => hk.2) (.string t341)) (fun _ hk => hk.2) (.string t342)) (fun _ hk => hk.1.1))); (case aS => exact (below_size bwS)); (case aL => have := LMc60.out; omega); intro v346 w89 ho hb hg hat; rw [← Ny345.out] at ho; have n0_ := Aside0.mk (Kd.S_over' (by (with_reducible repeat (first | apply Kd.S_alloc | apply Kd.S_drewN | apply Kd.S_drew)); exact (Kd.S_mono (Kd.S_mono (Kd.S_far (p := ⟨gb339, 2, none⟩) (Kd.S_far (p := ⟨gb339, 1, none⟩) (Kd.S_far (p := ⟨gb344, 1, none⟩) (Kd.S_far (p := ⟨gb344, 0, none⟩) (Kd.S_types (Kd.S_types HO_6.out BK344.out (by decide)) BK339.out (by decide)) (fun _ hk => hk.1.2) (.string t341)) (fun _ hk => hk.1.2) (.string t342)) (fun _ hk => hk.2) (.string t341)) (fun _ hk => hk.2) (.string t342)) (fun _ h_ => h_.1)) (fun _ h_ => h_.1))) (Kd.R_typed (by (with_reducible repeat (first | apply Kd.R_alloc | apply Kd.R_drewN | apply Kd.R_drew)); exact (Kd.R_mono (Kd.R_mono (Kd.R_far (p := ⟨gb339, 2, none⟩) (Kd.R_far (p := ⟨gb339, 1, none⟩) (Kd.R_far (p := ⟨gb344, 1, none⟩) (Kd.R_far (p := ⟨gb344, 0, none⟩) (Kd.R_mono (Kd.R_types HO_7.out BK344.out (by decide)) (fun k_ hk => (⟨hk, hk.1⟩ : _ ∧ k_ ≠ gb339))) (fun _ hk => hk.1.2) (.string t341)) (fun _ hk => hk.1.2) (.string t342)) (fun _ hk => hk.2) (.string t341)) (fun _ hk => hk.2) (.string t342)) (fun _ h_ => h_.1)) (fun _ h_ => h_.1)))) (by decide) hg); have n1_ := Aside0.mk (Kd.R_over' (by (with_reducible repeat (first | apply Kd.R_alloc | apply Kd.R_drewN | apply Kd.R_drew)); exact (Kd.R_mono (Kd.R_mono (Kd.R_far (p := ⟨gb339, 2, none⟩) (Kd.R_far (p := ⟨gb339, 1, none⟩) (Kd.R_far (p := ⟨gb344, 1, none⟩) (Kd.R_far (p := ⟨gb344, 0, none⟩) (Kd.R_types (Kd.R_types HO_334000.out BK344.out (by decide)) BK339.out (by decide)) (fun _ hk => hk.1.2) (.string t341)) (fun _ hk => hk.1.2) (.string t342)) (fun _ hk => hk.2) (.string t341)) (fun _ hk => hk.2) (.string t342)) (fun _ h_ => h_.1)) (fun _ h_ => h_.1))) (Kd.R_typed (by (with_reducible repeat (first | apply Kd.R_alloc | apply Kd.R_drewN | apply Kd.R_drew)); exact (Kd.R_mono (Kd.R_mono (Kd.R_far (p := ⟨gb339, 2, none⟩) (Kd.R_far (p := ⟨gb339, 1, none⟩) (Kd.R_far (p := ⟨gb344, 1, none⟩) (Kd.R_far (p := ⟨gb344, 0, none⟩) (Kd.R_mono (Kd.R_types HO_7.out BK344.out (by decide)) (fun k_ hk => (⟨hk, hk.1⟩ : _ ∧ k_ ≠ gb339))) (fun _ hk => hk.1.2) (.string t341)) (fun _ hk => hk.1.2) (.string t342)) (fun _ hk => hk.2) (.string t341)) (fun _ hk => hk.2) (.string t342)) (fun _ h_ => h_.1)) (fun _ h_ => h_.1)))) (by decide) hg); have n2_ := Aside0.mk (blk_grown (g := gb333) (o := .cells #[.slice Ao81 x334000_39.length co81, .string x334001_39] 73 (0, 0)) (by (with_reducible repeat (first | refine blk_drewN ?_ _ | refine blk_drew ?_ | refine blk_alloc ?_ _)); refine blk_far ?_ NB333_339.out _; (with_reducible repeat (first | refine blk_drewN ?_ _ | refine blk_drew ?_ | refine blk_alloc ?_ _)); refine blk_far ?_ NB333_339.out _; (with_reducible repeat (first | refine blk_drewN ?_ _ | refine blk_drew ?_ | refine blk_alloc ?_ _)); refine blk_far ?_ NB333_344.out _; (with_reducible repeat (first | refine blk_drewN ?_ _ | refine blk_drew ?_ | refine blk_alloc ?_ _)); refine blk_far ?_ NB333_344.out _; (with_reducible repeat (first | refine blk_drewN ?_ _ | refine blk_drew ?_ | refine blk_alloc ?_ _)); exact BK333.out) hg (Kd.R_ne HO_7.out BK333.out (by decide))); have n3_ := Aside0.mk (blk_grown (g := gb339) (o := .cells #[.string x340000_39, .string t341, .string t342] 40 (0, 0)) (by (with_reducible repeat (first | refine blk_drewN ?_ _ | refine blk_drew ?_ | refine blk_alloc ?_ _)); refine blk_put (cs := #[.string x340000_39, .string t341, .string (⟨#[]⟩ : ByteArray)]) ?_ 2 _ rfl; (with_reducible repeat (first | refine blk_drewN ?_ _ | refine blk_drew ?_ | refine blk_alloc ?_ _)); refine blk_put (cs := #[.string x340000_39, .string (⟨#[]⟩ : ByteArray), .string (⟨#[]⟩ : ByteArray)]) ?_ 1 _ rfl; (with_reducible repeat (first | refine blk_drewN ?_ _ | refine blk_drew ?_ | refine blk_alloc ?_ _)); refine blk_far ?_ NB339_344.out _; (with_reducible repeat (first | refine blk_drewN ?_ _ | refine blk_drew ?_ | refine blk_alloc ?_ _)); refine blk_far ?_ NB339_344.out _; (with_reducible repeat (first | refine blk_drewN ?_ _ | refine blk_drew ?_ | refine blk_alloc ?_ _)); exact BK339.out) hg (Kd.R_away HO_7.out (fun _ hk => hk))); have n4_ := Aside0.mk (blk_grown (g := gb344) (o := .cells #[.string t341, .string t342] 38 (0, 0)) (by (with_reducible repeat (first | refine blk_drewN ?_ _ | refine blk_drew ?_ | refine blk_alloc ?_ _)); refine blk_far ?_ NB344_339.out _; (with_reducible repeat (first | refine blk_drewN ?_ _ | refine blk_drew ?_ | refine blk_alloc ?_ _)); refine blk_far ?_ NB344_339.out _; (with_reducible repeat (first | refine blk_drewN ?_ _ | refine blk_drew ?_ | refine blk_alloc ?_ _)); refine blk_put (cs := #[.string t341, .string (⟨#[]⟩ : ByteArray)]) ?_ 1 _ rfl; (with_reducible repeat (first | refine blk_drewN ?_ _ | refine blk_drew ?_ | refine blk_alloc ?_ _)); exact blk_put (cs := #[.string (⟨#[]⟩ : ByteArray), .string (⟨#[]⟩ : ByteArray)]) bk 0 _ rfl) hg (Kd.R_ne HO_7.out BK344.out (by decide))); have n5_ := Aside0.mk (hb); have n6_ := Aside0.mk (ho); clear HO_6; clear HO_334000; clear BK333; clear BK339; clear BK344; clear HB; clear HO_7; have HO_6 := n0_; have HO_334000 := n1_; have BK333 := n2_; have BK339 := n3_; have BK344 := n4_; have HB := n5_; have HO347 := n6_; clear n0_ n1_ n2_ n3_ n4_ n5_ n6_; clear ho hb hg hat; have hcz90_0 : w89.cell? ⟨gb333, 0, none⟩ = some (.slice Ao81 x334000_39.length co81) := (blk_cell BK333.out 0).trans rfl; have hcz90_1 : w89.cell? ⟨gb333, 1, none⟩ = some (.string x334001_39) := (blk_cell BK333.out 1).trans rfl; have hfz90_0 := blk_frozen BK333.out 0; have hfz90_1 := blk_frozen BK333.out 1; have p348 : 0 ≤ ((ji63) : Int) := od; have q348 : (ji63) < (t329.length : Int) := od; obtain ⟨ad348, A348_0, c348_0, e348, hx348_0, hx348_1, hl348_0, hi348_0⟩ := at_T73 (Kd.S_reads' HO_6.out).2.2 (ji63) p348 q348; obtain rfl : ad332 = ad348 := (by injection e348); obtain ⟨ce348, hce348, hMe348, hcc348⟩ := Kd.S_get HO_6.out z73 (ji63) p348 (by first | exact q348 | exact od | (have e_ := (Kd.S_reads' HO_6.out).1; omega)); obtain ⟨ve348_0, rfl, ge348_0⟩ := k73_openM hMe348; have hv348_0 := hcc348 0 _ rfl; rw [Nat.add_zero] at hv348_0; replace hv348_0 := Option.some.inj (hv348_0.symm.trans hx348_0); rw [hv348_0] at ge348_0; have HL348_0 := Aside0.mk (show Kd.R k113 113 _ _ _ _ ((rd_T73 t329 (ji63)).f0) from ge348_0); clear hv348_0 ge348_0; clear hcc348 hce348; have HR348_0 := Aside0.mk hi348_0; have HC348_0 := Aside0.mk hl348_0; clear hi348_0 hl348_0; replace p348 := eq_true p348; replace q348 := eq_true q348))
                    go_meet
                    case rel => exact ⟨_, (y345), (x8_1), (ji63), ((rd_T73 t329 (ji63)).f0), ((rd_T73 t329 (ji63)).f1), (.slice A348_0 ((rd_T73 t329 (ji63)).f0).length c348_0), cl, (by first | rfl | (simp; done) | (simp only [← hji63] <;> (first | rfl | simp)) | (simp [*]; done) | (simp [nil_ne]; done) | (simp [u8_w, i64w_]; done) | (simp [size_lit]; done) | (simp; unfold wrap64; omega)), H', ⟨by have := HK1.out; have := HJ10.out; have := HJ30.out; have := HJ39.out; first | omega | exact Nat.le_refl _⟩, ⟨sa (Kd.S_mono (Kd.S_far (p := ⟨gb333, 1, none⟩) (Kd.S_far (p := ⟨gb333, 0, none⟩) (Kd.S_mono HO_6.out (fun k_ hk => (⟨hk, hk⟩ : _ ∧ k_ ≠ gb333))) (fun _ hk => hk.2) (.slice A348_0 ((rd_T73 t329 (ji63)).f0).length c348_0)) (fun _ hk => hk.2) (.string ((rd_T73 t329 (ji63)).f1))) (fun _ hk => hk.1))⟩, ⟨by (with_reducible repeat (first | apply Kd.R_alloc | apply Kd.R_drewN | apply Kd.R_drew)); exact Kd.R_mono (Kd.R_far (p := ⟨gb333, 1, none⟩) (Kd.R_far (p := ⟨gb333, 0, none⟩) (Kd.R_types HO347.out BK333.out (by decide)) (fun _ hk => hk.2) (.slice A348_0 ((rd_T73 t329 (ji63)).f0).length c348_0)) (fun _ hk => hk.2) (.string ((rd_T73 t329 (ji63)).f1))) (fun _ hk => trivial)⟩, ⟨by (with_reducible repeat (first | apply Kd.R_alloc | apply Kd.R_drewN | apply Kd.R_drew)); exact Kd.R_mono (Kd.R_far (p := ⟨gb333, 1, none⟩) (Kd.R_far (p := ⟨gb333, 0, none⟩) (Kd.R_types HL348_0.out BK333.out (by decide)) (fun _ hk => hk.2) (.slice A348_0 ((rd_T73 t329 (ji63)).f0).length c348_0)) (fun _ hk => hk.2) (.string ((rd_T73 t329 (ji63)).f1))) (fun _ hk => trivial)⟩, ⟨by (with_reducible repeat (first | refine blk_drewN ?_ _ | refine blk_drew ?_ | refine blk_alloc ?_ _)); refine blk_put (cs := #[.slice A348_0 ((rd_T73 t329 (ji63)).f0).length c348_0, .string x334001_39]) ?_ 1 _ rfl; (with_reducible repeat (first | refine blk_drewN ?_ _ | refine blk_drew ?_ | refine blk_alloc ?_ _)); exact blk_put (cs := #[.slice Ao81 x334000_39.length co81, .string x334001_39]) bk 0 _ rfl⟩, ⟨bwS⟩⟩
                  rw [if_neg c65] at H; exact absurd H (by simp)
                 rw [if_neg c64] at H; exact absurd H (by simp)
                rw [if_neg c62] at H; have c62b0 := beq_eq_false_iff_ne.mpr c62; have c62b1 := bne_iff_ne.mpr c62; simp only [Option.some.injEq, Prod.mk.injEq] at H; obtain ⟨rfl, rfl⟩ := H; have hnb91 := NB333_339.out; have hnc91 := NB339_333.out; obtain ⟨hcz92_0, hcz92_1, hfz92_0, hfz92_1⟩ := bk2 BK333.out; obtain ⟨Ao93, co93, eo93⟩ := Kd.R_slice HO_334000.out; subst eo93
                as_aux_lemma =>
                 go_wp2_with (first | ((with_reducible refine gate_callee (f := 39) rfl ?_); refine goesL_ (some 107) rfl rfl Tryd.func39 (by kernel_rfl) rfl #[.slice Ao93 x334000_39.length co93] rfl am ?_; (with_reducible refine (bulletinref13_Of.calls kj39 _ _ x334000_39 t341 t342 t343 _ ?side1 ?side2 A48.out).mono ?_); (case side1 => repeat (first | exact (Kd.R_reads' HO_334000.out).2.2 | (with_reducible refine Kd.C_alloc ?_ _) | (with_reducible refine Kd.C_drewN ?_ _) | (with_reducible refine Kd.C_drew ?_))); (case side2 => exact (Kd.R_reads' HO_334000.out).2.1); rintro e w94 ⟨rfl, hb⟩; refine ⟨_, rfl, ?_⟩; have n0_ := Aside0.mk (Kd.S_below (sa HO_6.out) hb); have n1_ := Aside0.mk (Kd.R_below (ra HO_7.out) hb); have n2_ := Aside0.mk (Kd.R_below (ra HO_334000.out) hb); have n3_ := Aside0.mk (blk_below (g := gb333) (o := .cells #[.slice Ao93 x334000_39.length co93, .string x334001_39] 73 (0, 0)) bk hb); have n4_ := Aside0.mk (blk_below (g := gb339) (o := .cells #[.string x340000_39, .string (⟨#[]⟩ : ByteArray), .string (⟨#[]⟩ : ByteArray)] 40 (0, 0)) bk hb); have n5_ := Aside0.mk (below_step bwS hb); clear HO_6; clear HO_7; clear HO_334000; clear BK333; clear BK339; clear HB; have HO_6 := n0_; have HO_7 := n1_; have HO_334000 := n2_; have BK333 := n3_; have BK339 := n4_; have HB := n5_; clear n0_ n1_ n2_ n3_ n4_ n5_; (try clear hb); (try clear hb2); (try clear hk); (try clear hi)) | ((with_reducible refine gate_dst (N := 15) rfl ?_); (try (refine gate_guard (by rfl) ?_; dsimp only)); refine box_event ?hg (N := 15) ?hd (cs := #[.string (⟨#[]⟩ : ByteArray), .string (⟨#[]⟩ : ByteArray)]) (t := 38) ?hr ?_; (case hd => rfl); (case hg => rfl); (case hr => first | (go_simp; done) | (go_simp; rfl)); intro gb344 hg w95 hbox hb; have n0_ := Aside0.mk (Kd.S_below (sa HO_6.out) hb); have n1_ := Aside0.mk (Kd.R_below (ra HO_7.out) hb); have n2_ := Aside0.mk (Kd.R_below (ra HO_334000.out) hb); have n3_ := Aside0.mk (blk_below (g := gb333) (o := .cells #[.slice Ao93 x334000_39.length co93, .string x334001_39] 73 (0, 0)) bk hb); have n4_ := Aside0.mk (blk_below (g := gb339) (o := .cells #[.string x340000_39, .string (⟨#[]⟩ : ByteArray), .string (⟨#[]⟩ : ByteArray)] 40 (0, 0)) bk hb); have n5_ := Aside0.mk (below_step bwS hb); have n6_ := Aside0.mk (hbox); have n7_ := Aside0.mk ((by rw [hg]; exact (below_size bwS) : w.heap.size ≤ gb344)); have n8_ := Aside0.mk ((by rw [hg]; exact (below_size bwS) : w.heap.size ≤ gb344)); have n9_ := Aside0.mk ((by rw [hg]; exact Nat.ne_of_lt (blk_lt (g := gb333) (o := .cells #[.slice Ao93 x334000_39.length co93, .string x334001_39] 73 (0, 0)) bk) : gb333 ≠ gb344)); have n10_ := Aside0.mk ((by rw [hg]; exact Nat.ne_of_gt (blk_lt (g := gb333) (o := .cells #[.slice Ao93 x334000_39.length co93, .string x334001_39] 73 (0, 0)) bk) : gb344 ≠ gb333)); have n11_ := Aside0.mk ((by rw [hg]; exact Nat.ne_of_lt (blk_lt (g := gb339) (o := .cells #[.string x340000_39, .string (⟨#[]⟩ : ByteArray), .string (⟨#[]⟩ : ByteArray)] 40 (0, 0)) bk) : gb339 ≠ gb344)); have n12_ := Aside0.mk ((by rw [hg]; exact Nat.ne_of_gt (blk_lt (g := gb339) (o := .cells #[.string x340000_39, .string (⟨#[]⟩ : ByteArray), .string (⟨#[]⟩ : ByteArray)] 40 (0, 0)) bk) : gb344 ≠ gb339)); clear HO_6; clear HO_7; clear HO_334000; clear BK333; clear BK339; clear HB; have HO_6 := n0_; have HO_7 := n1_; have HO_334000 := n2_; have BK333 := n3_; have BK339 := n4_; have HB := n5_; have BK344 := n6_; have GW344 := n7_; have GE344 := n8_; have NB333_344 := n9_; have NB344_333 := n10_; have NB339_344 := n11_; have NB344_339 := n12_; clear n0_ n1_ n2_ n3_ n4_ n5_ n6_ n7_ n8_ n9_ n10_ n11_ n12_; clear hb hbox hg; have hnb96 := NB344_333.out; have hnc96 := NB333_344.out; have hnb97 := NB344_339.out; have hnc97 := NB339_344.out; have hcz98_0 : w95.cell? ⟨gb344, 0, none⟩ = some (.string (⟨#[]⟩ : ByteArray)) := (blk_cell BK344.out 0).trans rfl; have hcz98_1 : w95.cell? ⟨gb344, 1, none⟩ = some (.string (⟨#[]⟩ : ByteArray)) := (blk_cell BK344.out 1).trans rfl; have hfz98_0 := blk_frozen BK344.out 0; have hfz98_1 := blk_frozen BK344.out 1; obtain ⟨Ao99, co99, eo99⟩ := Kd.R_slice HO_7.out; subst eo99; have hcz100_0 : w95.cell? ⟨gb339, 0, none⟩ = some (.string x340000_39) := (blk_cell BK339.out 0).trans rfl; have hcz100_1 : w95.cell? ⟨gb339, 1, none⟩ = some (.string (⟨#[]⟩ : ByteArray)) := (blk_cell BK339.out 1).trans rfl; have hcz100_2 : w95.cell? ⟨gb339, 2, none⟩ = some (.string (⟨#[]⟩ : ByteArray)) := (blk_cell BK339.out 2).trans rfl; have hfz100_0 := blk_frozen BK339.out 0; have hfz100_1 := blk_frozen BK339.out 1; have hfz100_2 := blk_frozen BK339.out 2) | ((with_reducible refine gate_builtin (b := .append) (xs := #[.tmp 118, .tmp 120]) rfl ?_); (try (refine gate_guard (by rfl) ?_; dsimp only)); at_builtin; refine Kd.R_append k40 (w0 := w) w.heap.size rfl (.tmp 118) (.tmp 120) 27 40 (.agg #[(.string ⟨#[]⟩), (.string ⟨#[]⟩), (.string ⟨#[]⟩)]) 48 rfl Tryd.underlying27 info40 rfl (by decide) (by omega) (.slice Ao99 x7_1.length co99) x7_1 (⟨x340000_39, (⟨t341, t342⟩ : S38)⟩ : S40) [.string x340000_39, .string t341, .string t342] (fun k_ => k_ ≠ gb339) (fun _ => False) rfl (by first | (go_simp; done) | (go_simp; rfl)) ?aP (fun _ hk => hk.elim) ?aF ?aO ?aB ?aS ?aL ?_; (case aP => exact k40_mkM _ _ _ (⟨x340000_39, (⟨t341, t342⟩ : S38)⟩ : S40)); (case aB => exact bwS); (case aF => exact (fun k_ hk => Kd.freshB (g := gb339) (o := .cells #[.string x340000_39, .string t341, .string t342] 40 (0, 0)) (by (with_reducible repeat (first | refine blk_drewN ?_ _ | refine blk_drew ?_ | refine blk_alloc ?_ _)); refine blk_put (cs := #[.string x340000_39, .string t341, .string (⟨#[]⟩ : ByteArray)]) ?_ 2 _ rfl; (with_reducible repeat (first | refine blk_drewN ?_ _ | refine blk_drew ?_ | refine blk_alloc ?_ _)); refine blk_put (cs := #[.string x340000_39, .string (⟨#[]⟩ : ByteArray), .string (⟨#[]⟩ : ByteArray)]) ?_ 1 _ rfl; (with_reducible repeat (first | refine blk_drewN ?_ _ | refine blk_drew ?_ | refine blk_alloc ?_ _)); refine blk_far ?_ NB339_344.out _; (with_reducible repeat (first | refine blk_drewN ?_ _ | refine blk_drew ?_ | refine blk_alloc ?_ _)); refine blk_far ?_ NB339_344.out _; (with_reducible repeat (first | refine blk_drewN ?_ _ | refine blk_drew ?_ | refine blk_alloc ?_ _)); exact BK339.out) k_ hk)); (case aO => exact (by (with_reducible repeat (first | apply Kd.R_alloc | apply Kd.R_drewN | apply Kd.R_drew)); exact Kd.R_mono (Kd.R_far (p := ⟨gb339, 2, none⟩) (Kd.R_far (p := ⟨gb339, 1, none⟩) (Kd.R_far (p := ⟨gb344, 1, none⟩) (Kd.R_far (p := ⟨gb344, 0, none⟩) (Kd.R_mono (Kd.R_types HO_7.out BK344.out (by decide)) (fun k_ hk => (⟨hk, hk.1⟩ : _ ∧ k_ ≠ gb339))) (fun _ hk => hk.1.2) (.string t341)) (fun _ hk => hk.1.2) (.string t342)) (fun _ hk => hk.2) (.string t341)) (fun _ hk => hk.2) (.string t342)) (fun _ hk => hk.1.1))); (case aS => exact (below_size bwS)); (case aL => have := LMc60.out; omega); intro v346 w101 ho hb hg hat; rw [← Ny345.out] at ho; have n0_ := Aside0.mk (Kd.S_over' (by (with_reducible repeat (first | apply Kd.S_alloc | apply Kd.S_drewN | apply Kd.S_drew)); exact (Kd.S_mono (Kd.S_mono (Kd.S_far (p := ⟨gb339, 2, none⟩) (Kd.S_far (p := ⟨gb339, 1, none⟩) (Kd.S_far (p := ⟨gb344, 1, none⟩) (Kd.S_far (p := ⟨gb344, 0, none⟩) (Kd.S_types (Kd.S_types HO_6.out BK344.out (by decide)) BK339.out (by decide)) (fun _ hk => hk.1.2) (.string t341)) (fun _ hk => hk.1.2) (.string t342)) (fun _ hk => hk.2) (.string t341)) (fun _ hk => hk.2) (.string t342)) (fun _ h_ => h_.1)) (fun _ h_ => h_.1))) (Kd.R_typed (by (with_reducible repeat (first | apply Kd.R_alloc | apply Kd.R_drewN | apply Kd.R_drew)); exact (Kd.R_mono (Kd.R_mono (Kd.R_far (p := ⟨gb339, 2, none⟩) (Kd.R_far (p := ⟨gb339, 1, none⟩) (Kd.R_far (p := ⟨gb344, 1, none⟩) (Kd.R_far (p := ⟨gb344, 0, none⟩) (Kd.R_mono (Kd.R_types HO_7.out BK344.out (by decide)) (fun k_ hk => (⟨hk, hk.1⟩ : _ ∧ k_ ≠ gb339))) (fun _ hk => hk.1.2) (.string t341)) (fun _ hk => hk.1.2) (.string t342)) (fun _ hk => hk.2) (.string t341)) (fun _ hk => hk.2) (.string t342)) (fun _ h_ => h_.1)) (fun _ h_ => h_.1)))) (by decide) hg); have n1_ := Aside0.mk (Kd.R_over' (by (with_reducible repeat (first | apply Kd.R_alloc | apply Kd.R_drewN | apply Kd.R_drew)); exact (Kd.R_mono (Kd.R_mono (Kd.R_far (p := ⟨gb339, 2, none⟩) (Kd.R_far (p := ⟨gb339, 1, none⟩) (Kd.R_far (p := ⟨gb344, 1, none⟩) (Kd.R_far (p := ⟨gb344, 0, none⟩) (Kd.R_types (Kd.R_types HO_334000.out BK344.out (by decide)) BK339.out (by decide)) (fun _ hk => hk.1.2) (.string t341)) (fun _ hk => hk.1.2) (.string t342)) (fun _ hk => hk.2) (.string t341)) (fun _ hk => hk.2) (.string t342)) (fun _ h_ => h_.1)) (fun _ h_ => h_.1))) (Kd.R_typed (by (with_reducible repeat (first | apply Kd.R_alloc | apply Kd.R_drewN | apply Kd.R_drew)); exact (Kd.R_mono (Kd.R_mono (Kd.R_far (p := ⟨gb339, 2, none⟩) (Kd.R_far (p := ⟨gb339, 1, none⟩) (Kd.R_far (p := ⟨gb344, 1, none⟩) (Kd.R_far (p := ⟨gb344, 0, none⟩) (Kd.R_mono (Kd.R_types HO_7.out BK344.out (by decide)) (fun k_ hk => (⟨hk, hk.1⟩ : _ ∧ k_ ≠ gb339))) (fun _ hk => hk.1.2) (.string t341)) (fun _ hk => hk.1.2) (.string t342)) (fun _ hk => hk.2) (.string t341)) (fun _ hk => hk.2) (.string t342)) (fun _ h_ => h_.1)) (fun _ h_ => h_.1)))) (by decide) hg); have n2_ := Aside0.mk (blk_grown (g := gb333) (o := .cells #[.slice Ao93 x334000_39.length co93, .string x334001_39] 73 (0, 0)) (by (with_reducible repeat (first | refine blk_drewN ?_ _ | refine blk_drew ?_ | refine blk_alloc ?_ _)); refine blk_far ?_ NB333_339.out _; (with_reducible repeat (first | refine blk_drewN ?_ _ | refine blk_drew ?_ | refine blk_alloc ?_ _)); refine blk_far ?_ NB333_339.out _; (with_reducible repeat (first | refine blk_drewN ?_ _ | refine blk_drew ?_ | refine blk_alloc ?_ _)); refine blk_far ?_ NB333_344.out _; (with_reducible repeat (first | refine blk_drewN ?_ _ | refine blk_drew ?_ | refine blk_alloc ?_ _)); refine blk_far ?_ NB333_344.out _; (with_reducible repeat (first | refine blk_drewN ?_ _ | refine blk_drew ?_ | refine blk_alloc ?_ _)); exact BK333.out) hg (Kd.R_ne HO_7.out BK333.out (by decide))); have n3_ := Aside0.mk (blk_grown (g := gb339) (o := .cells #[.string x340000_39, .string t341, .string t342] 40 (0, 0)) (by (with_reducible repeat (first | refine blk_drewN ?_ _ | refine blk_drew ?_ | refine blk_alloc ?_ _)); refine blk_put (cs := #[.string x340000_39, .string t341, .string (⟨#[]⟩ : ByteArray)]) ?_ 2 _ rfl; (with_reducible repeat (first | refine blk_drewN ?_ _ | refine blk_drew ?_ | refine blk_alloc ?_ _)); refine blk_put (cs := #[.string x340000_39, .string (⟨#[]⟩ : ByteArray), .string (⟨#[]⟩ : ByteArray)]) ?_ 1 _ rfl; (with_reducible repeat (first | refine blk_drewN ?_ _ | refine blk_drew ?_ | refine blk_alloc ?_ _)); refine blk_far ?_ NB339_344.out _; (with_reducible repeat (first | refine blk_drewN ?_ _ | refine blk_drew ?_ | refine blk_alloc ?_ _)); refine blk_far ?_ NB339_344.out _; (with_reducible repeat (first | refine blk_drewN ?_ _ | refine blk_drew ?_ | refine blk_alloc ?_ _)); exact BK339.out) hg (Kd.R_away HO_7.out (fun _ hk => hk))); have n4_ := Aside0.mk (blk_grown (g := gb344) (o := .cells #[.string t341, .string t342] 38 (0, 0)) (by (with_reducible repeat (first | refine blk_drewN ?_ _ | refine blk_drew ?_ | refine blk_alloc ?_ _)); refine blk_far ?_ NB344_339.out _; (with_reducible repeat (first | refine blk_drewN ?_ _ | refine blk_drew ?_ | refine blk_alloc ?_ _)); refine blk_far ?_ NB344_339.out _; (with_reducible repeat (first | refine blk_drewN ?_ _ | refine blk_drew ?_ | refine blk_alloc ?_ _)); refine blk_put (cs := #[.string t341, .string (⟨#[]⟩ : ByteArray)]) ?_ 1 _ rfl; (with_reducible repeat (first | refine blk_drewN ?_ _ | refine blk_drew ?_ | refine blk_alloc ?_ _)); exact blk_put (cs := #[.string (⟨#[]⟩ : ByteArray), .string (⟨#[]⟩ : ByteArray)]) bk 0 _ rfl) hg (Kd.R_ne HO_7.out BK344.out (by decide))); have n5_ := Aside0.mk (hb); have n6_ := Aside0.mk (ho); clear HO_6; clear HO_334000; clear BK333; clear BK339; clear BK344; clear HB; clear HO_7; have HO_6 := n0_; have HO_334000 := n1_; have BK333 := n2_; have BK339 := n3_; have BK344 := n4_; have HB := n5_; have HO347 := n6_; clear n0_ n1_ n2_ n3_ n4_ n5_ n6_; clear ho hb hg hat; have hcz102_0 : w101.cell? ⟨gb333, 0, none⟩ = some (.slice Ao93 x334000_39.length co93) := (blk_cell BK333.out 0).trans rfl; have hcz102_1 : w101.cell? ⟨gb333, 1, none⟩ = some (.string x334001_39) := (blk_cell BK333.out 1).trans rfl; have hfz102_0 := blk_frozen BK333.out 0; have hfz102_1 := blk_frozen BK333.out 1))
                 go_ret2
                 exact ⟨_, ew, by first | exact Kd.R_nil _ _ _ _ _ | exact Kd.N_nil _ _ _ _ _ | exact Kd.V_nil _ _ _ _ _ | exact Kd.Q_nil _ _ _ _ _ | exact Kd.S_nil _ _ _ _ _, bwS⟩
               replace c61 := Bool.eq_false_iff.mpr c61; subst c61; rw [if_neg nft] at H; have H' := Aside0.mk H; clear H; have hnb103 := NB333_339.out; have hnc103 := NB339_333.out; obtain ⟨hcz104_0, hcz104_1, hfz104_0, hfz104_1⟩ := bk2 BK333.out; obtain ⟨Ao105, co105, eo105⟩ := Kd.R_slice HO_334000.out; subst eo105
               as_aux_lemma =>
                go_wp2_with (first | ((with_reducible refine gate_callee (f := 39) rfl ?_); refine goesL_ (some 107) rfl rfl Tryd.func39 (by kernel_rfl) rfl #[.slice Ao105 x334000_39.length co105] rfl am ?_; (with_reducible refine (bulletinref13_Of.calls kj39 _ _ x334000_39 t341 t342 t343 _ ?side1 ?side2 A48.out).mono ?_); (case side1 => repeat (first | exact (Kd.R_reads' HO_334000.out).2.2 | (with_reducible refine Kd.C_alloc ?_ _) | (with_reducible refine Kd.C_drewN ?_ _) | (with_reducible refine Kd.C_drew ?_))); (case side2 => exact (Kd.R_reads' HO_334000.out).2.1); rintro e w106 ⟨rfl, hb⟩; refine ⟨_, rfl, ?_⟩; have n0_ := Aside0.mk (Kd.S_below (sa HO_6.out) hb); have n1_ := Aside0.mk (Kd.R_below (ra HO_7.out) hb); have n2_ := Aside0.mk (Kd.R_below (ra HO_334000.out) hb); have n3_ := Aside0.mk (blk_below (g := gb333) (o := .cells #[.slice Ao105 x334000_39.length co105, .string x334001_39] 73 (0, 0)) bk hb); have n4_ := Aside0.mk (blk_below (g := gb339) (o := .cells #[.string x340000_39, .string (⟨#[]⟩ : ByteArray), .string (⟨#[]⟩ : ByteArray)] 40 (0, 0)) bk hb); have n5_ := Aside0.mk (below_step bwS hb); clear HO_6; clear HO_7; clear HO_334000; clear BK333; clear BK339; clear HB; have HO_6 := n0_; have HO_7 := n1_; have HO_334000 := n2_; have BK333 := n3_; have BK339 := n4_; have HB := n5_; clear n0_ n1_ n2_ n3_ n4_ n5_; (try clear hb); (try clear hb2); (try clear hk); (try clear hi)) | ((with_reducible refine gate_dst (N := 15) rfl ?_); (try (refine gate_guard (by rfl) ?_; dsimp only)); refine box_event ?hg (N := 15) ?hd (cs := #[.string (⟨#[]⟩ : ByteArray), .string (⟨#[]⟩ : ByteArray)]) (t := 38) ?hr ?_; (case hd => rfl); (case hg => rfl); (case hr => first | (go_simp; done) | (go_simp; rfl)); intro gb344 hg w107 hbox hb; have n0_ := Aside0.mk (Kd.S_below (sa HO_6.out) hb); have n1_ := Aside0.mk (Kd.R_below (ra HO_7.out) hb); have n2_ := Aside0.mk (Kd.R_below (ra HO_334000.out) hb); have n3_ := Aside0.mk (blk_below (g := gb333) (o := .cells #[.slice Ao105 x334000_39.length co105, .string x334001_39] 73 (0, 0)) bk hb); have n4_ := Aside0.mk (blk_below (g := gb339) (o := .cells #[.string x340000_39, .string (⟨#[]⟩ : ByteArray), .string (⟨#[]⟩ : ByteArray)] 40 (0, 0)) bk hb); have n5_ := Aside0.mk (below_step bwS hb); have n6_ := Aside0.mk (hbox); have n7_ := Aside0.mk ((by rw [hg]; exact (below_size bwS) : w.heap.size ≤ gb344)); have n8_ := Aside0.mk ((by rw [hg]; exact (below_size bwS) : w.heap.size ≤ gb344)); have n9_ := Aside0.mk ((by rw [hg]; exact Nat.ne_of_lt (blk_lt (g := gb333) (o := .cells #[.slice Ao105 x334000_39.length co105, .string x334001_39] 73 (0, 0)) bk) : gb333 ≠ gb344)); have n10_ := Aside0.mk ((by rw [hg]; exact Nat.ne_of_gt (blk_lt (g := gb333) (o := .cells #[.slice Ao105 x334000_39.length co105, .string x334001_39] 73 (0, 0)) bk) : gb344 ≠ gb333)); have n11_ := Aside0.mk ((by rw [hg]; exact Nat.ne_of_lt (blk_lt (g := gb339) (o := .cells #[.string x340000_39, .string (⟨#[]⟩ : ByteArray), .string (⟨#[]⟩ : ByteArray)] 40 (0, 0)) bk) : gb339 ≠ gb344)); have n12_ := Aside0.mk ((by rw [hg]; exact Nat.ne_of_gt (blk_lt (g := gb339) (o := .cells #[.string x340000_39, .string (⟨#[]⟩ : ByteArray), .string (⟨#[]⟩ : ByteArray)] 40 (0, 0)) bk) : gb344 ≠ gb339)); clear HO_6; clear HO_7; clear HO_334000; clear BK333; clear BK339; clear HB; have HO_6 := n0_; have HO_7 := n1_; have HO_334000 := n2_; have BK333 := n3_; have BK339 := n4_; have HB := n5_; have BK344 := n6_; have GW344 := n7_; have GE344 := n8_; have NB333_344 := n9_; have NB344_333 := n10_; have NB339_344 := n11_; have NB344_339 := n12_; clear n0_ n1_ n2_ n3_ n4_ n5_ n6_ n7_ n8_ n9_ n10_ n11_ n12_; clear hb hbox hg; have hnb108 := NB344_333.out; have hnc108 := NB333_344.out; have hnb109 := NB344_339.out; have hnc109 := NB339_344.out; have hcz110_0 : w107.cell? ⟨gb344, 0, none⟩ = some (.string (⟨#[]⟩ : ByteArray)) := (blk_cell BK344.out 0).trans rfl; have hcz110_1 : w107.cell? ⟨gb344, 1, none⟩ = some (.string (⟨#[]⟩ : ByteArray)) := (blk_cell BK344.out 1).trans rfl; have hfz110_0 := blk_frozen BK344.out 0; have hfz110_1 := blk_frozen BK344.out 1; obtain ⟨Ao111, co111, eo111⟩ := Kd.R_slice HO_7.out; subst eo111; have hcz112_0 : w107.cell? ⟨gb339, 0, none⟩ = some (.string x340000_39) := (blk_cell BK339.out 0).trans rfl; have hcz112_1 : w107.cell? ⟨gb339, 1, none⟩ = some (.string (⟨#[]⟩ : ByteArray)) := (blk_cell BK339.out 1).trans rfl; have hcz112_2 : w107.cell? ⟨gb339, 2, none⟩ = some (.string (⟨#[]⟩ : ByteArray)) := (blk_cell BK339.out 2).trans rfl; have hfz112_0 := blk_frozen BK339.out 0; have hfz112_1 := blk_frozen BK339.out 1; have hfz112_2 := blk_frozen BK339.out 2) | ((with_reducible refine gate_builtin (b := .append) (xs := #[.tmp 118, .tmp 120]) rfl ?_); (try (refine gate_guard (by rfl) ?_; dsimp only)); at_builtin; refine Kd.R_append k40 (w0 := w) w.heap.size rfl (.tmp 118) (.tmp 120) 27 40 (.agg #[(.string ⟨#[]⟩), (.string ⟨#[]⟩), (.string ⟨#[]⟩)]) 48 rfl Tryd.underlying27 info40 rfl (by decide) (by omega) (.slice Ao111 x7_1.length co111) x7_1 (⟨x340000_39, (⟨t341, t342⟩ : S38)⟩ : S40) [.string x340000_39, .string t341, .string t342] (fun k_ => k_ ≠ gb339) (fun _ => False) rfl (by first | (go_simp; done) | (go_simp; rfl)) ?aP (fun _ hk => hk.elim) ?aF ?aO ?aB ?aS ?aL ?_; (case aP => exact k40_mkM _ _ _ (⟨x340000_39, (⟨t341, t342⟩ : S38)⟩ : S40)); (case aB => exact bwS); (case aF => exact (fun k_ hk => Kd.freshB (g := gb339) (o := .cells #[.string x340000_39, .string t341, .string t342] 40 (0, 0)) (by (with_reducible repeat (first | refine blk_drewN ?_ _ | refine blk_drew ?_ | refine blk_alloc ?_ _)); refine blk_put (cs := #[.string x340000_39, .string t341, .string (⟨#[]⟩ : ByteArray)]) ?_ 2 _ rfl; (with_reducible repeat (first | refine blk_drewN ?_ _ | refine blk_drew ?_ | refine blk_alloc ?_ _)); refine blk_put (cs := #[.string x340000_39, .string (⟨#[]⟩ : ByteArray), .string (⟨#[]⟩ : ByteArray)]) ?_ 1 _ rfl; (with_reducible repeat (first | refine blk_drewN ?_ _ | refine blk_drew ?_ | refine blk_alloc ?_ _)); refine blk_far ?_ NB339_344.out _; (with_reducible repeat (first | refine blk_drewN ?_ _ | refine blk_drew ?_ | refine blk_alloc ?_ _)); refine blk_far ?_ NB339_344.out _; (with_reducible repeat (first | refine blk_drewN ?_ _ | refine blk_drew ?_ | refine blk_alloc ?_ _)); exact BK339.out) k_ hk)); (case aO => exact (by (with_reducible repeat (first | apply Kd.R_alloc | apply Kd.R_drewN | apply Kd.R_drew)); exact Kd.R_mono (Kd.R_far (p := ⟨gb339, 2, none⟩) (Kd.R_far (p := ⟨gb339, 1, none⟩) (Kd.R_far (p := ⟨gb344, 1, none⟩) (Kd.R_far (p := ⟨gb344, 0, none⟩) (Kd.R_mono (Kd.R_types HO_7.out BK344.out (by decide)) (fun k_ hk => (⟨hk, hk.1⟩ : _ ∧ k_ ≠ gb339))) (fun _ hk => hk.1.2) (.string t341)) (fun _ hk => hk.1.2) (.string t342)) (fun _ hk => hk.2) (.string t341)) (fun _ hk => hk.2) (.string t342)) (fun _ hk => hk.1.1))); (case aS => exact (below_size bwS)); (case aL => have := LMc60.out; omega); intro v346 w113 ho hb hg hat; rw [← Ny345.out] at ho; have n0_ := Aside0.mk (Kd.S_over' (by (with_reducible repeat (first | apply Kd.S_alloc | apply Kd.S_drewN | apply Kd.S_drew)); exact (Kd.S_mono (Kd.S_mono (Kd.S_far (p := ⟨gb339, 2, none⟩) (Kd.S_far (p := ⟨gb339, 1, none⟩) (Kd.S_far (p := ⟨gb344, 1, none⟩) (Kd.S_far (p := ⟨gb344, 0, none⟩) (Kd.S_types (Kd.S_types HO_6.out BK344.out (by decide)) BK339.out (by decide)) (fun _ hk => hk.1.2) (.string t341)) (fun _ hk => hk.1.2) (.string t342)) (fun _ hk => hk.2) (.string t341)) (fun _ hk => hk.2) (.string t342)) (fun _ h_ => h_.1)) (fun _ h_ => h_.1))) (Kd.R_typed (by (with_reducible repeat (first | apply Kd.R_alloc | apply Kd.R_drewN | apply Kd.R_drew)); exact (Kd.R_mono (Kd.R_mono (Kd.R_far (p := ⟨gb339, 2, none⟩) (Kd.R_far (p := ⟨gb339, 1, none⟩) (Kd.R_far (p := ⟨gb344, 1, none⟩) (Kd.R_far (p := ⟨gb344, 0, none⟩) (Kd.R_mono (Kd.R_types HO_7.out BK344.out (by decide)) (fun k_ hk => (⟨hk, hk.1⟩ : _ ∧ k_ ≠ gb339))) (fun _ hk => hk.1.2) (.string t341)) (fun _ hk => hk.1.2) (.string t342)) (fun _ hk => hk.2) (.string t341)) (fun _ hk => hk.2) (.string t342)) (fun _ h_ => h_.1)) (fun _ h_ => h_.1)))) (by decide) hg); have n1_ := Aside0.mk (Kd.R_over' (by (with_reducible repeat (first | apply Kd.R_alloc | apply Kd.R_drewN | apply Kd.R_drew)); exact (Kd.R_mono (Kd.R_mono (Kd.R_far (p := ⟨gb339, 2, none⟩) (Kd.R_far (p := ⟨gb339, 1, none⟩) (Kd.R_far (p := ⟨gb344, 1, none⟩) (Kd.R_far (p := ⟨gb344, 0, none⟩) (Kd.R_types (Kd.R_types HO_334000.out BK344.out (by decide)) BK339.out (by decide)) (fun _ hk => hk.1.2) (.string t341)) (fun _ hk => hk.1.2) (.string t342)) (fun _ hk => hk.2) (.string t341)) (fun _ hk => hk.2) (.string t342)) (fun _ h_ => h_.1)) (fun _ h_ => h_.1))) (Kd.R_typed (by (with_reducible repeat (first | apply Kd.R_alloc | apply Kd.R_drewN | apply Kd.R_drew)); exact (Kd.R_mono (Kd.R_mono (Kd.R_far (p := ⟨gb339, 2, none⟩) (Kd.R_far (p := ⟨gb339, 1, none⟩) (Kd.R_far (p := ⟨gb344, 1, none⟩) (Kd.R_far (p := ⟨gb344, 0, none⟩) (Kd.R_mono (Kd.R_types HO_7.out BK344.out (by decide)) (fun k_ hk => (⟨hk, hk.1⟩ : _ ∧ k_ ≠ gb339))) (fun _ hk => hk.1.2) (.string t341)) (fun _ hk => hk.1.2) (.string t342)) (fun _ hk => hk.2) (.string t341)) (fun _ hk => hk.2) (.string t342)) (fun _ h_ => h_.1)) (fun _ h_ => h_.1)))) (by decide) hg); have n2_ := Aside0.mk (blk_grown (g := gb333) (o := .cells #[.slice Ao105 x334000_39.length co105, .string x334001_39] 73 (0, 0)) (by (with_reducible repeat (first | refine blk_drewN ?_ _ | refine blk_drew ?_ | refine blk_alloc ?_ _)); refine blk_far ?_ NB333_339.out _; (with_reducible repeat (first | refine blk_drewN ?_ _ | refine blk_drew ?_ | refine blk_alloc ?_ _)); refine blk_far ?_ NB333_339.out _; (with_reducible repeat (first | refine blk_drewN ?_ _ | refine blk_drew ?_ | refine blk_alloc ?_ _)); refine blk_far ?_ NB333_344.out _; (with_reducible repeat (first | refine blk_drewN ?_ _ | refine blk_drew ?_ | refine blk_alloc ?_ _)); refine blk_far ?_ NB333_344.out _; (with_reducible repeat (first | refine blk_drewN ?_ _ | refine blk_drew ?_ | refine blk_alloc ?_ _)); exact BK333.out) hg (Kd.R_ne HO_7.out BK333.out (by decide))); have n3_ := Aside0.mk (blk_grown (g := gb339) (o := .cells #[.string x340000_39, .string t341, .string t342] 40 (0, 0)) (by (with_reducible repeat (first | refine blk_drewN ?_ _ | refine blk_drew ?_ | refine blk_alloc ?_ _)); refine blk_put (cs := #[.string x340000_39, .string t341, .string (⟨#[]⟩ : ByteArray)]) ?_ 2 _ rfl; (with_reducible repeat (first | refine blk_drewN ?_ _ | refine blk_drew ?_ | refine blk_alloc ?_ _)); refine blk_put (cs := #[.string x340000_39, .string (⟨#[]⟩ : ByteArray), .string (⟨#[]⟩ : ByteArray)]) ?_ 1 _ rfl; (with_reducible repeat (first | refine blk_drewN ?_ _ | refine blk_drew ?_ | refine blk_alloc ?_ _)); refine blk_far ?_ NB339_344.out _; (with_reducible repeat (first | refine blk_drewN ?_ _ | refine blk_drew ?_ | refine blk_alloc ?_ _)); refine blk_far ?_ NB339_344.out _; (with_reducible repeat (first | refine blk_drewN ?_ _ | refine blk_drew ?_ | refine blk_alloc ?_ _)); exact BK339.out) hg (Kd.R_away HO_7.out (fun _ hk => hk))); have n4_ := Aside0.mk (blk_grown (g := gb344) (o := .cells #[.string t341, .string t342] 38 (0, 0)) (by (with_reducible repeat (first | refine blk_drewN ?_ _ | refine blk_drew ?_ | refine blk_alloc ?_ _)); refine blk_far ?_ NB344_339.out _; (with_reducible repeat (first | refine blk_drewN ?_ _ | refine blk_drew ?_ | refine blk_alloc ?_ _)); refine blk_far ?_ NB344_339.out _; (with_reducible repeat (first | refine blk_drewN ?_ _ | refine blk_drew ?_ | refine blk_alloc ?_ _)); refine blk_put (cs := #[.string t341, .string (⟨#[]⟩ : ByteArray)]) ?_ 1 _ rfl; (with_reducible repeat (first | refine blk_drewN ?_ _ | refine blk_drew ?_ | refine blk_alloc ?_ _)); exact blk_put (cs := #[.string (⟨#[]⟩ : ByteArray), .string (⟨#[]⟩ : ByteArray)]) bk 0 _ rfl) hg (Kd.R_ne HO_7.out BK344.out (by decide))); have n5_ := Aside0.mk (hb); have n6_ := Aside0.mk (ho); clear HO_6; clear HO_334000; clear BK333; clear BK339; clear BK344; clear HB; clear HO_7; have HO_6 := n0_; have HO_334000 := n1_; have BK333 := n2_; have BK339 := n3_; have BK344 := n4_; have HB := n5_; have HO347 := n6_; clear n0_ n1_ n2_ n3_ n4_ n5_ n6_; clear ho hb hg hat))
                go_meet
                case rel => exact ⟨_, (y345), (x8_1), (x9_39), (x334000_39), (x334001_39), (.slice Ao105 x334000_39.length co105), cl, cl, H', ⟨by have := HK1.out; have := HJ10.out; have := HJ30.out; have := HJ39.out; first | omega | exact Nat.le_refl _⟩, ⟨sa HO_6.out⟩, ⟨ra (Kd.R_mono HO347.out (fun _ hk => trivial))⟩, ⟨ra HO_334000.out⟩, ⟨bk⟩, ⟨bwS⟩⟩
              rw [if_neg c60] at H; exact absurd H (by simp)
             rw [if_neg c49] at H; have c49b0 := beq_eq_false_iff_ne.mpr c49; have c49b1 := bne_iff_ne.mpr c49; simp only [Option.some.injEq, Prod.mk.injEq] at H; obtain ⟨rfl, rfl⟩ := H; have hnb114 := NB333_339.out; have hnc114 := NB339_333.out; obtain ⟨hcz115_0, hcz115_1, hfz115_0, hfz115_1⟩ := bk2 BK333.out; obtain ⟨Ao116, co116, eo116⟩ := Kd.R_slice HO_334000.out; subst eo116
             as_aux_lemma =>
              go_wp2_with (first | ((with_reducible refine gate_callee (f := 39) rfl ?_); refine goesL_ (some 107) rfl rfl Tryd.func39 (by kernel_rfl) rfl #[.slice Ao116 x334000_39.length co116] rfl am ?_; (with_reducible refine (bulletinref13_Of.calls kj39 _ _ x334000_39 t341 t342 t343 _ ?side1 ?side2 A48.out).mono ?_); (case side1 => repeat (first | exact (Kd.R_reads' HO_334000.out).2.2 | (with_reducible refine Kd.C_alloc ?_ _) | (with_reducible refine Kd.C_drewN ?_ _) | (with_reducible refine Kd.C_drew ?_))); (case side2 => exact (Kd.R_reads' HO_334000.out).2.1); rintro e w117 ⟨rfl, hb⟩; refine ⟨_, rfl, ?_⟩; have n0_ := Aside0.mk (Kd.S_below (sa HO_6.out) hb); have n1_ := Aside0.mk (Kd.R_below (ra HO_7.out) hb); have n2_ := Aside0.mk (Kd.R_below (ra HO_334000.out) hb); have n3_ := Aside0.mk (blk_below (g := gb333) (o := .cells #[.slice Ao116 x334000_39.length co116, .string x334001_39] 73 (0, 0)) bk hb); have n4_ := Aside0.mk (blk_below (g := gb339) (o := .cells #[.string x340000_39, .string (⟨#[]⟩ : ByteArray), .string (⟨#[]⟩ : ByteArray)] 40 (0, 0)) bk hb); have n5_ := Aside0.mk (below_step bwS hb); clear HO_6; clear HO_7; clear HO_334000; clear BK333; clear BK339; clear HB; have HO_6 := n0_; have HO_7 := n1_; have HO_334000 := n2_; have BK333 := n3_; have BK339 := n4_; have HB := n5_; clear n0_ n1_ n2_ n3_ n4_ n5_; (try clear hb); (try clear hb2); (try clear hk); (try clear hi)) | ((with_reducible refine gate_dst (N := 15) rfl ?_); (try (refine gate_guard (by rfl) ?_; dsimp only)); refine box_event ?hg (N := 15) ?hd (cs := #[.string (⟨#[]⟩ : ByteArray), .string (⟨#[]⟩ : ByteArray)]) (t := 38) ?hr ?_; (case hd => rfl); (case hg => rfl); (case hr => first | (go_simp; done) | (go_simp; rfl)); intro gb344 hg w118 hbox hb; have n0_ := Aside0.mk (Kd.S_below (sa HO_6.out) hb); have n1_ := Aside0.mk (Kd.R_below (ra HO_7.out) hb); have n2_ := Aside0.mk (Kd.R_below (ra HO_334000.out) hb); have n3_ := Aside0.mk (blk_below (g := gb333) (o := .cells #[.slice Ao116 x334000_39.length co116, .string x334001_39] 73 (0, 0)) bk hb); have n4_ := Aside0.mk (blk_below (g := gb339) (o := .cells #[.string x340000_39, .string (⟨#[]⟩ : ByteArray), .string (⟨#[]⟩ : ByteArray)] 40 (0, 0)) bk hb); have n5_ := Aside0.mk (below_step bwS hb); have n6_ := Aside0.mk (hbox); have n7_ := Aside0.mk ((by rw [hg]; exact (below_size bwS) : w.heap.size ≤ gb344)); have n8_ := Aside0.mk ((by rw [hg]; exact (below_size bwS) : w.heap.size ≤ gb344)); have n9_ := Aside0.mk ((by rw [hg]; exact Nat.ne_of_lt (blk_lt (g := gb333) (o := .cells #[.slice Ao116 x334000_39.length co116, .string x334001_39] 73 (0, 0)) bk) : gb333 ≠ gb344)); have n10_ := Aside0.mk ((by rw [hg]; exact Nat.ne_of_gt (blk_lt (g := gb333) (o := .cells #[.slice Ao116 x334000_39.length co116, .string x334001_39] 73 (0, 0)) bk) : gb344 ≠ gb333)); have n11_ := Aside0.mk ((by rw [hg]; exact Nat.ne_of_lt (blk_lt (g := gb339) (o := .cells #[.string x340000_39, .string (⟨#[]⟩ : ByteArray), .string (⟨#[]⟩ : ByteArray)] 40 (0, 0)) bk) : gb339 ≠ gb344)); have n12_ := Aside0.mk ((by rw [hg]; exact Nat.ne_of_gt (blk_lt (g := gb339) (o := .cells #[.string x340000_39, .string (⟨#[]⟩ : ByteArray), .string (⟨#[]⟩ : ByteArray)] 40 (0, 0)) bk) : gb344 ≠ gb339)); clear HO_6; clear HO_7; clear HO_334000; clear BK333; clear BK339; clear HB; have HO_6 := n0_; have HO_7 := n1_; have HO_334000 := n2_; have BK333 := n3_; have BK339 := n4_; have HB := n5_; have BK344 := n6_; have GW344 := n7_; have GE344 := n8_; have NB333_344 := n9_; have NB344_333 := n10_; have NB339_344 := n11_; have NB344_339 := n12_; clear n0_ n1_ n2_ n3_ n4_ n5_ n6_ n7_ n8_ n9_ n10_ n11_ n12_; clear hb hbox hg; have hnb119 := NB344_333.out; have hnc119 := NB333_344.out; have hnb120 := NB344_339.out; have hnc120 := NB339_344.out; have hcz121_0 : w118.cell? ⟨gb344, 0, none⟩ = some (.string (⟨#[]⟩ : ByteArray)) := (blk_cell BK344.out 0).trans rfl; have hcz121_1 : w118.cell? ⟨gb344, 1, none⟩ = some (.string (⟨#[]⟩ : ByteArray)) := (blk_cell BK344.out 1).trans rfl; have hfz121_0 := blk_frozen BK344.out 0; have hfz121_1 := blk_frozen BK344.out 1))
              go_ret2
              exact ⟨_, ew, by first | exact Kd.R_nil _ _ _ _ _ | exact Kd.N_nil _ _ _ _ _ | exact Kd.V_nil _ _ _ _ _ | exact Kd.Q_nil _ _ _ _ _ | exact Kd.S_nil _ _ _ _ _, bwS⟩
        case rest =>
         clear HC23; obtain ⟨kq, x7_22, x8_22, x9_22, x334000_22, x334001_22, u334000, rfl, rfl, HA, HJ22, HO_6, HO_7, HO_334000, BK333, HB⟩ := hcut; cases kq with
         | zero => exact absurd HA.out (by simp [bulletinref14_Read.j4])
         | succ kj22 =>
          have H := HA.out; clear HA; simp only [bulletinref14_Read.j4] at H; have HC122 := Aside0.mk H; clear H
          go_upto_region 37 with (fail)
          go_cut [141] (fun v141 wc => ∃ (kq : Nat) (x141_121 : Bool), v141 = .bool x141_121 ∧ Aside0 (bulletinref14_Read.j5 kq t329 x7_22 x8_22 x9_22 x141_121 x334000_22 x334001_22 = some (r1, r2)) ∧ Aside0 (kq ≤ kj22) ∧ Aside0 (Kd.S k73 73 wc w.heap.size (fun k_ => k_ ≠ gb333) (.slice (some ad332) t329.length co12) t329) ∧ Aside0 (Kd.R k40 40 wc w.heap.size (fun _ => True) u7 x7_22) ∧ Aside0 (Kd.R k113 113 wc w.heap.size (fun _ => True) u334000 x334000_22) ∧ Aside0 (wc.heap[gb333]? = some (.cells #[u334000, .string x334001_22] 73 (0, 0))) ∧ Aside0 (Below w.heap.size w wc))
          case first =>
           have H := HC122.out; clear HC122
           by_cases c123 : x334001_22.toList = ([59] : List UInt8)
           ·rw [if_pos c123] at H; have c123b0 := beq_iff_eq.mpr c123; have c123b1 := bne_eq_false_iff_eq.mpr c123; clear c123
            (first | rw [c123b0] | (simp only [i64_w, i32_w]; rw [c123b0]) | skip)
            have H' := Aside0.mk H; clear H; obtain ⟨hcz124_0, hcz124_1, hfz124_0, hfz124_1⟩ := bk2 BK333.out
            as_aux_lemma =>
             go_wp2
             go_meet
             case rel => exact ⟨_, (x8_22), cl, H', ⟨by have := HK1.out; have := HJ10.out; have := HJ22.out; first | omega | exact Nat.le_refl _⟩, ⟨sa HO_6.out⟩, ⟨ra HO_7.out⟩, ⟨ra HO_334000.out⟩, ⟨bk⟩, ⟨bwS⟩⟩
           rw [if_neg c123] at H; have c123b0 := beq_eq_false_iff_ne.mpr c123; have c123b1 := bne_iff_ne.mpr c123
           (first | rw [c123b0] | (simp only [i64_w, i32_w]; rw [c123b0]) | skip)
           have H' := Aside0.mk H; clear H; obtain ⟨hcz125_0, hcz125_1, hfz125_0, hfz125_1⟩ := bk2 BK333.out
           as_aux_lemma =>
            go_wp2
            go_meet
            case rel => exact ⟨_, (false), cl, H', ⟨by have := HK1.out; have := HJ10.out; have := HJ22.out; first | omega | exact Nat.le_refl _⟩, ⟨sa HO_6.out⟩, ⟨ra HO_7.out⟩, ⟨ra HO_334000.out⟩, ⟨bk⟩, ⟨bwS⟩⟩
          case rest =>
           clear HC122; obtain ⟨kq, x141_121, rfl, HA, HJ121, HO_6, HO_7, HO_334000, BK333, HB⟩ := hcut; cases kq with
           | zero => exact absurd HA.out (by simp [bulletinref14_Read.j5])
           | succ kj121 =>
            have H := HA.out; clear HA; simp only [bulletinref14_Read.j5] at H; have HC126 := Aside0.mk H; clear H
            go_upto_if 141 with (fail)
            go_cut [8, 9] (fun v8 v9 wc => ∃ (kq : Nat) (x8_125 : Bool) (x9_125 : Int) (x334000_125 : List (S113)) (x334001_125 : ByteArray) (u334000 : Value), v8 = .bool x8_125 ∧ v9 = .int .i64 x9_125 ∧ Aside0 (bulletinref14_Read.j6 kq t329 x7_22 x8_125 x9_125 x334000_125 x334001_125 = some (r1, r2)) ∧ Aside0 (kq ≤ kj121) ∧ Aside0 (Kd.S k73 73 wc w.heap.size (fun k_ => k_ ≠ gb333) (.slice (some ad332) t329.length co12) t329) ∧ Aside0 (Kd.R k40 40 wc w.heap.size (fun _ => True) u7 x7_22) ∧ Aside0 (Kd.R k113 113 wc w.heap.size (fun _ => True) u334000 x334000_125) ∧ Aside0 (wc.heap[gb333]? = some (.cells #[u334000, .string x334001_125] 73 (0, 0))) ∧ Aside0 (Below w.heap.size w wc))
            case first =>
             have H := HC126.out; clear HC126
             by_cases c127 : x141_121 = true
             ·subst c127; rw [if_pos rfl] at H; obtain ⟨ji128, hji128⟩ : ∃ j_ : Int, (wrap64 (x9_22 + 1)) = j_ := ⟨_, rfl⟩
              replace H : (if 0 ≤ (ji128) then (if (ji128) < (t329.length : Int) then (if (((rd_T73 t329 (ji128)).f0).length : Int) > 0 then (some (([] : List (S40)), 130)) else (bulletinref14_Read.j6 kj121 t329 x7_22 false ji128 ((rd_T73 t329 (ji128)).f0) ((rd_T73 t329 (ji128)).f1))) else (none)) else (none)) = some (r1, r2) := by first | (rw [hji128] at H; exact H) | (simp only [hji128] at H ⊢; exact H)
              have hji128w : (IntKind.i64.wrap (x9_22 + 1)) = ji128 := (i64_w _).trans hji128
              by_cases c129 : 0 ≤ (ji128)
              ·rw [if_pos c129] at H; have c129b0 := decide_eq_true c129; clear c129
               (first | rw [c129b0] | (simp only [i64_w, i32_w]; rw [c129b0]) | skip)
               by_cases c130 : (ji128) < (t329.length : Int)
               ·rw [if_pos c130] at H; have c130b0 := decide_eq_true c130; clear c130
                by_cases c131 : (((rd_T73 t329 (ji128)).f0).length : Int) > 0
                ·rw [if_pos c131] at H; have c131b0 : decide (0 < (((rd_T73 t329 (ji128)).f0).length : Int)) = true := decide_eq_true c131; have c131b1 : decide (0 < ((rd_T73 t329 (ji128)).f0).length) = true := decide_eq_true (by omega); clear c131; simp only [Option.some.injEq, Prod.mk.injEq] at H; obtain ⟨rfl, rfl⟩ := H; have p349 : 0 ≤ ((ji128) : Int) := od; have q349 : (ji128) < (t329.length : Int) := od; obtain ⟨ad349, A349_0, c349_0, e349, hx349_0, hx349_1, hl349_0, hi349_0⟩ := at_T73 (Kd.S_reads' HO_6.out).2.2 (ji128) p349 q349; obtain rfl : ad332 = ad349 := (by injection e349)
                 obtain ⟨ce349, hce349, hMe349, hcc349⟩ := Kd.S_get HO_6.out z73 (ji128) p349 (by first | exact q349 | exact od | (have e_ := (Kd.S_reads' HO_6.out).1; omega)); obtain ⟨ve349_0, rfl, ge349_0⟩ := k73_openM hMe349; have hv349_0 := hcc349 0 _ rfl; rw [Nat.add_zero] at hv349_0; replace hv349_0 := Option.some.inj (hv349_0.symm.trans hx349_0); rw [hv349_0] at ge349_0; have HL349_0 := Aside0.mk (show Kd.R k113 113 _ _ _ _ ((rd_T73 t329 (ji128)).f0) from ge349_0); clear hv349_0 ge349_0 hcc349 hce349; have HR349_0 := Aside0.mk hi349_0; have HC349_0 := Aside0.mk hl349_0; clear hi349_0 hl349_0; replace p349 := eq_true p349; replace q349 := eq_true q349; obtain ⟨hcz132_0, hcz132_1, hfz132_0, hfz132_1⟩ := bk2 BK333.out
                 as_aux_lemma =>
                  go_wp2
                  go_ret2
                  exact ⟨_, by first | rfl | (simp [errW_none, errW_some] <;> rfl) | (simp only [← hji128]; first | rfl | (simp [errW_none, errW_some] <;> rfl)) | (simp [*, errW_none, errW_some] <;> rfl), by first | exact Kd.R_nil _ _ _ _ _ | exact Kd.N_nil _ _ _ _ _ | exact Kd.V_nil _ _ _ _ _ | exact Kd.Q_nil _ _ _ _ _ | exact Kd.S_nil _ _ _ _ _, bwS⟩
                rw [if_neg c131] at H; have c131b0 : decide (0 < (((rd_T73 t329 (ji128)).f0).length : Int)) = false := decide_eq_false c131; have c131b1 : decide (0 < ((rd_T73 t329 (ji128)).f0).length) = false := decide_eq_false (by omega); clear c131; have H' := Aside0.mk H; clear H; have p349 : 0 ≤ ((ji128) : Int) := od; have q349 : (ji128) < (t329.length : Int) := od; obtain ⟨ad349, A349_0, c349_0, e349, hx349_0, hx349_1, hl349_0, hi349_0⟩ := at_T73 (Kd.S_reads' HO_6.out).2.2 (ji128) p349 q349; obtain rfl : ad332 = ad349 := (by injection e349)
                obtain ⟨ce349, hce349, hMe349, hcc349⟩ := Kd.S_get HO_6.out z73 (ji128) p349 (by first | exact q349 | exact od | (have e_ := (Kd.S_reads' HO_6.out).1; omega)); obtain ⟨ve349_0, rfl, ge349_0⟩ := k73_openM hMe349; have hv349_0 := hcc349 0 _ rfl; rw [Nat.add_zero] at hv349_0; replace hv349_0 := Option.some.inj (hv349_0.symm.trans hx349_0); rw [hv349_0] at ge349_0; have HL349_0 := Aside0.mk (show Kd.R k113 113 _ _ _ _ ((rd_T73 t329 (ji128)).f0) from ge349_0); clear hv349_0 ge349_0 hcc349 hce349; have HR349_0 := Aside0.mk hi349_0; have HC349_0 := Aside0.mk hl349_0; clear hi349_0 hl349_0; replace p349 := eq_true p349; replace q349 := eq_true q349; obtain ⟨hcz133_0, hcz133_1, hfz133_0, hfz133_1⟩ := bk2 BK333.out
                as_aux_lemma =>
                 go_wp2
                 go_meet
                 case rel => exact ⟨_, (false), (ji128), ((rd_T73 t329 (ji128)).f0), ((rd_T73 t329 (ji128)).f1), (.slice A349_0 ((rd_T73 t329 (ji128)).f0).length c349_0), cl, (by first | rfl | (simp; done) | (simp only [← hji128] <;> (first | rfl | simp)) | (simp [*]; done) | (simp [nil_ne]; done) | (simp [u8_w, i64w_]; done) | (simp [size_lit]; done) | (simp; unfold wrap64; omega)), H', ⟨by have := HK1.out; have := HJ10.out; have := HJ22.out; have := HJ121.out; first | omega | exact Nat.le_refl _⟩, ⟨sa (Kd.S_mono (Kd.S_far (p := ⟨gb333, 1, none⟩) (Kd.S_far (p := ⟨gb333, 0, none⟩) (Kd.S_mono HO_6.out (fun k_ hk => (⟨hk, hk⟩ : _ ∧ k_ ≠ gb333))) (fun _ hk => hk.2) (.slice A349_0 ((rd_T73 t329 (ji128)).f0).length c349_0)) (fun _ hk => hk.2) (.string ((rd_T73 t329 (ji128)).f1))) (fun _ hk => hk.1))⟩, ⟨by (with_reducible repeat (first | apply Kd.R_alloc | apply Kd.R_drewN | apply Kd.R_drew)); exact Kd.R_mono (Kd.R_far (p := ⟨gb333, 1, none⟩) (Kd.R_far (p := ⟨gb333, 0, none⟩) (Kd.R_types HO_7.out BK333.out (by decide)) (fun _ hk => hk.2) (.slice A349_0 ((rd_T73 t329 (ji128)).f0).length c349_0)) (fun _ hk => hk.2) (.string ((rd_T73 t329 (ji128)).f1))) (fun _ hk => trivial)⟩, ⟨by (with_reducible repeat (first | apply Kd.R_alloc | apply Kd.R_drewN | apply Kd.R_drew)); exact Kd.R_mono (Kd.R_far (p := ⟨gb333, 1, none⟩) (Kd.R_far (p := ⟨gb333, 0, none⟩) (Kd.R_types HL349_0.out BK333.out (by decide)) (fun _ hk => hk.2) (.slice A349_0 ((rd_T73 t329 (ji128)).f0).length c349_0)) (fun _ hk => hk.2) (.string ((rd_T73 t329 (ji128)).f1))) (fun _ hk => trivial)⟩, ⟨by (with_reducible repeat (first | refine blk_drewN ?_ _ | refine blk_drew ?_ | refine blk_alloc ?_ _)); refine blk_put (cs := #[.slice A349_0 ((rd_T73 t329 (ji128)).f0).length c349_0, .string x334001_22]) ?_ 1 _ rfl; (with_reducible repeat (first | refine blk_drewN ?_ _ | refine blk_drew ?_ | refine blk_alloc ?_ _)); exact blk_put (cs := #[u334000, .string x334001_22]) bk 0 _ rfl⟩, ⟨bwS⟩⟩
               rw [if_neg c130] at H; exact absurd H (by simp)
              rw [if_neg c129] at H; exact absurd H (by simp)
             replace c127 := Bool.eq_false_iff.mpr c127; subst c127; rw [if_neg nft] at H; have H' := Aside0.mk H; clear H
             as_aux_lemma =>
              go_wp2
              go_meet
              case rel => exact ⟨_, (x8_22), (x9_22), (x334000_22), (x334001_22), (u334000), cl, cl, H', ⟨by have := HK1.out; have := HJ10.out; have := HJ22.out; have := HJ121.out; first | omega | exact Nat.le_refl _⟩, ⟨sa HO_6.out⟩, ⟨ra HO_7.out⟩, ⟨ra HO_334000.out⟩, ⟨bk⟩, ⟨bwS⟩⟩
            case rest =>
             clear HC126; obtain ⟨kq, x8_125, x9_125, x334000_125, x334001_125, u334000, rfl, rfl, HA, HJ125, HO_6, HO_7, HO_334000, BK333, HB⟩ := hcut; cases kq with
             | zero => exact absurd HA.out (by simp [bulletinref14_Read.j6])
             | succ kj125 =>
              have H := HA.out; clear HA; simp only [bulletinref14_Read.j6] at H; have HC134 := Aside0.mk H; clear H
              go_upto_region 43 with (fail)
              go_cut [158] (fun v158 wc => ∃ (kq : Nat) (x158_133 : Bool), v158 = .bool x158_133 ∧ Aside0 (bulletinref14_Read.j7 kq t329 x7_22 x8_125 x9_125 x158_133 x334000_125 x334001_125 = some (r1, r2)) ∧ Aside0 (kq ≤ kj125) ∧ Aside0 (Kd.S k73 73 wc w.heap.size (fun k_ => k_ ≠ gb333) (.slice (some ad332) t329.length co12) t329) ∧ Aside0 (Kd.R k40 40 wc w.heap.size (fun _ => True) u7 x7_22) ∧ Aside0 (Kd.R k113 113 wc w.heap.size (fun _ => True) u334000 x334000_125) ∧ Aside0 (wc.heap[gb333]? = some (.cells #[u334000, .string x334001_125] 73 (0, 0))) ∧ Aside0 (Below w.heap.size w wc))
              case first =>
               have H := HC134.out; clear HC134
               by_cases c135 : x334001_125.toList = ([] : List UInt8)
               ·rw [if_pos c135] at H; have c135b0 := beq_iff_eq.mpr c135; have c135b1 := bne_eq_false_iff_eq.mpr c135; clear c135
                (first | rw [c135b0] | (simp only [i64_w, i32_w]; rw [c135b0]) | skip)
                have H' := Aside0.mk H; clear H; obtain ⟨hcz136_0, hcz136_1, hfz136_0, hfz136_1⟩ := bk2 BK333.out
                as_aux_lemma =>
                 go_wp2
                 go_meet
                 case rel => exact ⟨_, (!x8_125), cl, H', ⟨by have := HK1.out; have := HJ10.out; have := HJ22.out; have := HJ121.out; have := HJ125.out; first | omega | exact Nat.le_refl _⟩, ⟨sa HO_6.out⟩, ⟨ra HO_7.out⟩, ⟨ra HO_334000.out⟩, ⟨bk⟩, ⟨bwS⟩⟩
               rw [if_neg c135] at H; have c135b0 := beq_eq_false_iff_ne.mpr c135; have c135b1 := bne_iff_ne.mpr c135
               (first | rw [c135b0] | (simp only [i64_w, i32_w]; rw [c135b0]) | skip)
               have H' := Aside0.mk H; clear H; obtain ⟨hcz137_0, hcz137_1, hfz137_0, hfz137_1⟩ := bk2 BK333.out
               as_aux_lemma =>
                go_wp2
                go_meet
                case rel => exact ⟨_, (false), cl, H', ⟨by have := HK1.out; have := HJ10.out; have := HJ22.out; have := HJ121.out; have := HJ125.out; first | omega | exact Nat.le_refl _⟩, ⟨sa HO_6.out⟩, ⟨ra HO_7.out⟩, ⟨ra HO_334000.out⟩, ⟨bk⟩, ⟨bwS⟩⟩
              case rest =>
               clear HC134; obtain ⟨kq, x158_133, rfl, HA, HJ133, HO_6, HO_7, HO_334000, BK333, HB⟩ := hcut; cases kq with
               | zero => exact absurd HA.out (by simp [bulletinref14_Read.j7])
               | succ kj133 =>
                have H := HA.out; clear HA; simp only [bulletinref14_Read.j7] at H
                by_cases c138 : x158_133 = true
                ·subst c138; rw [if_pos rfl] at H; simp only [Option.some.injEq, Prod.mk.injEq] at H; obtain ⟨rfl, rfl⟩ := H
                 as_aux_lemma =>
                  go_wp2
                  go_ret2
                  exact ⟨_, ew, ra HO_7.out, bwS⟩
                replace c138 := Bool.eq_false_iff.mpr c138; subst c138; rw [if_neg nft] at H
                by_cases c139 : x334001_125.toList = ([44] : List UInt8)
                ·rw [if_pos c139] at H; have c139b0 := beq_iff_eq.mpr c139; have c139b1 := bne_eq_false_iff_eq.mpr c139; clear c139; have H' := Aside0.mk H; clear H; obtain ⟨hcz140_0, hcz140_1, hfz140_0, hfz140_1⟩ := bk2 BK333.out
                 as_aux_lemma =>
                  go_wp2
                  go_roundg kj133
                  case measure => have := HK1.out; have := HJ10.out; have := HJ22.out; have := HJ121.out; have := HJ125.out; have := HJ133.out; omega
                  case rel => exact ⟨(x7_22), (x8_125), (wrap64 (x9_125 + 1)), cl, cl, H', ⟨by have := HK1.out; have := HJ10.out; have := HJ22.out; have := HJ121.out; have := HJ125.out; have := HJ133.out; omega⟩, ⟨sa (Kd.S_mono HO_6.out (fun _ hk => trivial))⟩, ⟨ra HO_7.out⟩, ⟨bwS⟩⟩
                rw [if_neg c139] at H; have c139b0 := beq_eq_false_iff_ne.mpr c139; have c139b1 := bne_iff_ne.mpr c139; simp only [Option.some.injEq, Prod.mk.injEq] at H; obtain ⟨rfl, rfl⟩ := H; obtain ⟨hcz141_0, hcz141_1, hfz141_0, hfz141_1⟩ := bk2 BK333.out
                as_aux_lemma =>
                 go_wp2
                 go_ret2
                 exact ⟨_, ew, by first | exact Kd.R_nil _ _ _ _ _ | exact Kd.N_nil _ _ _ _ _ | exact Kd.V_nil _ _ _ _ _ | exact Kd.Q_nil _ _ _ _ _ | exact Kd.S_nil _ _ _ _ _, bwS⟩
     rw [if_neg c9] at H; exact absurd H (by simp)
    rw [if_neg c8] at H; have c8b0 := decide_eq_false c8
    (try simp only [hl332_0] at c8b0)
    (try simp only [hl336_0] at c8b0)
    (try simp only [hl337_0] at c8b0)
    (try simp only [hl338_0] at c8b0)
    (try simp only [hl340_0] at c8b0)
    (try simp only [hl348_0] at c8b0)
    (try simp only [hl349_0] at c8b0)
    clear c8; simp only [Option.some.injEq, Prod.mk.injEq] at H; obtain ⟨rfl, rfl⟩ := H; obtain ⟨Ao142, co142, eo142⟩ := Kd.S_slice HO_6.out; subst eo142
    as_aux_lemma =>
     go_wp2
     go_ret2
     exact ⟨_, ew, by first | exact Kd.R_nil _ _ _ _ _ | exact Kd.N_nil _ _ _ _ _ | exact Kd.V_nil _ _ _ _ _ | exact Kd.Q_nil _ _ _ _ _ | exact Kd.S_nil _ _ _ _ _, bw⟩
 rw [if_neg c3] at H; have c3b0 := beq_eq_false_iff_ne.mpr c3; have c3b1 := bne_iff_ne.mpr c3; simp only [Option.some.injEq, Prod.mk.injEq] at H; obtain ⟨rfl, rfl⟩ := H
 go_enter Tryd.func12, Tryd.ntmps12
 go_wp2_with (first | ((with_reducible refine gate_callee (f := 36) rfl ?_); refine goesL_ (some 19) rfl rfl Tryd.func36 (by kernel_rfl) rfl #[.string a0] rfl am ?_; (with_reducible refine (bulletinref12_Scan.calls k a0 t325 t326 _ A2.out).mono ?_); rintro e w143 ⟨v327, rfl, ho0, hb⟩; refine ⟨_, rfl, ?_⟩; have n0_ := Aside0.mk (Kd.R_lower ho0 (below_size bw)); have n1_ := Aside0.mk (below_step bw hb); clear HB; have HO328 := n0_; have HB := n1_; clear n0_ n1_; (try clear hb); (try clear hb2); (try clear hk); (try clear hi); (try clear ho0)))
 go_ret2
 exact ⟨_, ew, by first | exact Kd.R_nil _ _ _ _ _ | exact Kd.N_nil _ _ _ _ _ | exact Kd.V_nil _ _ _ _ _ | exact Kd.Q_nil _ _ _ _ _ | exact Kd.S_nil _ _ _ _ _, bw⟩

end Go.Proofs.YtihabmcaplnbcaaDoor.Fn
namespace Go.Proofs.YtihabmcaplnbcaaDoor.Fn
open Go.RowKit Go.Proofs.YtihabmcaplnbcaaDoorW.PrintWords Go.Proofs.YtihabmcaplnbcaaDoorW.PrintLast Go.Proofs.YtihabmcaplnbcaaDoorW.PrintMore
attribute [local go_sem] max2_int min2_int max_two min_two max_three min_three max_four min_four
set_option linter.unusedVariables false
set_option linter.unusedSimpArgs false
def mbx_One.f (a0 : ByteArray) : Option (ByteArray × ByteArray × ByteArray × Int) := (mbx_Read.f a0).bind fun bt351 => (if bt351.2 = 0 then (if (bt351.1.length : Int) = 1 then (if 0 < (bt351.1.length : Int) then (some ((rd_T33 bt351.1 0).f0, (rd_T33 bt351.1 0).f1.f0, (rd_T33 bt351.1 0).f1.f1, 0)) else (none)) else (some ((⟨#[]⟩ : ByteArray), (⟨#[]⟩ : ByteArray), (⟨#[]⟩ : ByteArray), 130))) else (some ((⟨#[]⟩ : ByteArray), (⟨#[]⟩ : ByteArray), (⟨#[]⟩ : ByteArray), bt351.2)))
set_option maxHeartbeats 8000000 in
set_option maxRecDepth 100000 in
theorem mbx_One.calls (a0 : ByteArray) (r1 : ByteArray) (r2 : ByteArray) (r3 : ByteArray) (r4 : Int) (w : World) (hG : Glob w) (h : mbx_One.f a0 = some (r1, r2, r3, r4)) :
  Calls Tryd.prog 13 #[.string a0] w fun e w' => e = .returned (.tuple #[.agg #[.string r1, .string r2, .string r3], .int .i64 r4]) ∧ Below w.heap.size w w' := by
 have hu33 := Tryd.underlying33; have HB := Aside0.mk (Below.refl w.heap.size w); have H : ((mbx_Read.f a0).bind fun bt351 => (if bt351.2 = 0 then (if (bt351.1.length : Int) = 1 then (if 0 < (bt351.1.length : Int) then (some ((rd_T33 bt351.1 0).f0, (rd_T33 bt351.1 0).f1.f0, (rd_T33 bt351.1 0).f1.f1, 0)) else (none)) else (some ((⟨#[]⟩ : ByteArray), (⟨#[]⟩ : ByteArray), (⟨#[]⟩ : ByteArray), 130))) else (some ((⟨#[]⟩ : ByteArray), (⟨#[]⟩ : ByteArray), (⟨#[]⟩ : ByteArray), bt351.2)))) = some (r1, r2, r3, r4) := h; clear h; replace H := Option.bind_eq_some_iff.mp H; obtain ⟨⟨t351, t352⟩, A20, H⟩ := H; replace H : (if t352 = 0 then (if (t351.length : Int) = 1 then (if 0 < (t351.length : Int) then (some ((rd_T33 t351 0).f0, (rd_T33 t351 0).f1.f0, (rd_T33 t351 0).f1.f1, 0)) else (none)) else (some ((⟨#[]⟩ : ByteArray), (⟨#[]⟩ : ByteArray), (⟨#[]⟩ : ByteArray), 130))) else (some ((⟨#[]⟩ : ByteArray), (⟨#[]⟩ : ByteArray), (⟨#[]⟩ : ByteArray), t352))) = some (r1, r2, r3, r4) := H; have A2 := Aside0.mk A20; clear A20
 by_cases c3 : t352 = 0
 ·rw [if_pos c3] at H; have c3b0 := beq_iff_eq.mpr c3; have c3b1 := bne_eq_false_iff_eq.mpr c3; clear c3
  by_cases c4 : (t351.length : Int) = 1
  ·rw [if_pos c4] at H; have c4b0 := beq_iff_eq.mpr c4; have c4b1 := bne_eq_false_iff_eq.mpr c4; clear c4
   by_cases c5 : 0 < (t351.length : Int)
   ·rw [if_pos c5] at H; have c5b0 := decide_eq_true c5; have c5b1 : decide (0 < t351.length) = true := decide_eq_true (by omega); clear c5; simp only [Option.some.injEq, Prod.mk.injEq] at H; obtain ⟨rfl, rfl, rfl, rfl⟩ := H
    go_enter Tryd.func13, Tryd.ntmps13
    go_wp2_with (first | ((with_reducible refine gate_dst (N := 2) rfl ?_); refine box_event ?hg (N := 2) ?hd (cs := #[.string (⟨#[]⟩ : ByteArray), .string (⟨#[]⟩ : ByteArray), .string (⟨#[]⟩ : ByteArray)]) (t := 33) ?hr ?_; (case hd => rfl); (case hg => rfl); (case hr => first | (go_simp; done) | (go_simp; rfl)); intro gb350 hg w6 hbox hb; have n0_ := Aside0.mk (below_step bw hb); have n1_ := Aside0.mk (hbox); have n2_ := Aside0.mk ((by rw [hg]; exact (below_size bw) : w.heap.size ≤ gb350)); have n3_ := Aside0.mk ((by rw [hg]; exact (below_size bw) : w.heap.size ≤ gb350)); clear HB; have HB := n0_; have BK350 := n1_; have GW350 := n2_; have GE350 := n3_; clear n0_ n1_ n2_ n3_; clear hb hbox hg) | ((with_reducible refine gate_callee (f := 11) rfl ?_); refine goesL_ (some 8) rfl rfl Tryd.func11 (by kernel_rfl) rfl #[.string a0] rfl am ?_; (with_reducible refine (mbx_Read.calls (hG := by first | exact hG | exact Glob.below hG (by first | exact HB.out | (repeat (first | (with_reducible first | exact HB.out | apply below_alloc | apply pw_below_drewN | apply below_drew1 | refine below_set ?_ GE350.out) | exact HB.out))) | exact Glob.drawn hG (d0)) a0 t351 t352 _ A2.out).mono ?_); rintro e w7 ⟨v353, rfl, ho0, hb⟩; refine ⟨_, rfl, ?_⟩; have n0_ := Aside0.mk (Kd.R_lower (Kd.R_newB ho0 (g := gb350) (o := .cells #[.string (⟨#[]⟩ : ByteArray), .string (⟨#[]⟩ : ByteArray), .string (⟨#[]⟩ : ByteArray)] 33 (0, 0)) bk) (below_size bwS)); have n1_ := Aside0.mk (blk_below (g := gb350) (o := .cells #[.string (⟨#[]⟩ : ByteArray), .string (⟨#[]⟩ : ByteArray), .string (⟨#[]⟩ : ByteArray)] 33 (0, 0)) bk hb); have n2_ := Aside0.mk (below_step bwS hb); clear BK350; clear HB; have HO354 := n0_; have BK350 := n1_; have HB := n2_; clear n0_ n1_ n2_; (try clear hb); (try clear hb2); (try clear hk); (try clear hi); (try clear ho0); obtain ⟨Ao8, co8, eo8⟩ := Kd.R_slice HO354.out; subst eo8; have p355 : 0 ≤ (0 : Int) := (by omega); have q355 : 0 < (t351.length : Int) := od; obtain ⟨ad355, e355, hx355_0, hx355_1, hx355_2⟩ := at_T33 (Kd.R_reads' HO354.out).2.2 0 p355 q355; cases e355; have qi355 : (0 < t351.length) = True := eq_true (by omega); (try rw [show ((0 : Int)).toNat = 0 from rfl] at hx355_0); (try rw [show 0 * 3 = 0 from rfl] at hx355_0); (try rw [Addr.add_zero'] at hx355_0); (try rw [show ((0 : Int)).toNat = 0 from rfl] at hx355_1); (try rw [show 0 * 3 = 0 from rfl] at hx355_1); (try rw [Addr.add_zero'] at hx355_1); (try rw [show ((0 : Int)).toNat = 0 from rfl] at hx355_2); (try rw [show 0 * 3 = 0 from rfl] at hx355_2); (try rw [Addr.add_zero'] at hx355_2); replace p355 := eq_true p355; replace q355 := eq_true q355; have hcz9_0 : w7.cell? ⟨gb350, 0, none⟩ = some (.string (⟨#[]⟩ : ByteArray)) := (blk_cell BK350.out 0).trans rfl; have hcz9_1 : w7.cell? ⟨gb350, 1, none⟩ = some (.string (⟨#[]⟩ : ByteArray)) := (blk_cell BK350.out 1).trans rfl; have hcz9_2 : w7.cell? ⟨gb350, 2, none⟩ = some (.string (⟨#[]⟩ : ByteArray)) := (blk_cell BK350.out 2).trans rfl; have hfz9_0 := blk_frozen BK350.out 0; have hfz9_1 := blk_frozen BK350.out 1; have hfz9_2 := blk_frozen BK350.out 2))
    refine bodyPost_ret (results_ct rfl _ _ gb350 33 #[.string ((rd_T33 t351 0).f0), .string ((rd_T33 t351 0).f1.f0), .string ((rd_T33 t351 0).f1.f1)] (0, 0) _ rfl (by (with_reducible repeat (first | refine blk_drewN ?_ _ | refine blk_drew ?_ | refine blk_alloc ?_ _)); refine blk_put (cs := #[.string ((rd_T33 t351 0).f0), .string ((rd_T33 t351 0).f1.f0), .string (⟨#[]⟩ : ByteArray)]) ?_ 2 _ rfl; (with_reducible repeat (first | refine blk_drewN ?_ _ | refine blk_drew ?_ | refine blk_alloc ?_ _)); refine blk_put (cs := #[.string ((rd_T33 t351 0).f0), .string (⟨#[]⟩ : ByteArray), .string (⟨#[]⟩ : ByteArray)]) ?_ 1 _ rfl; (with_reducible repeat (first | refine blk_drewN ?_ _ | refine blk_drew ?_ | refine blk_alloc ?_ _)); exact blk_put (cs := #[.string (⟨#[]⟩ : ByteArray), .string (⟨#[]⟩ : ByteArray), .string (⟨#[]⟩ : ByteArray)]) bk 0 _ rfl) Tryd.underlying33 rfl (by kernel_rfl)) rfl ?_; exact ⟨ew, bwS⟩
   rw [if_neg c5] at H; exact absurd H (by simp)
  rw [if_neg c4] at H; have c4b0 := beq_eq_false_iff_ne.mpr c4; have c4b1 := bne_iff_ne.mpr c4; simp only [Option.some.injEq, Prod.mk.injEq] at H; obtain ⟨rfl, rfl, rfl, rfl⟩ := H
  go_enter Tryd.func13, Tryd.ntmps13
  go_wp2_with (first | ((with_reducible refine gate_dst (N := 2) rfl ?_); refine box_event ?hg (N := 2) ?hd (cs := #[.string (⟨#[]⟩ : ByteArray), .string (⟨#[]⟩ : ByteArray), .string (⟨#[]⟩ : ByteArray)]) (t := 33) ?hr ?_; (case hd => rfl); (case hg => rfl); (case hr => first | (go_simp; done) | (go_simp; rfl)); intro gb350 hg w10 hbox hb; have n0_ := Aside0.mk (below_step bw hb); have n1_ := Aside0.mk (hbox); have n2_ := Aside0.mk ((by rw [hg]; exact (below_size bw) : w.heap.size ≤ gb350)); have n3_ := Aside0.mk ((by rw [hg]; exact (below_size bw) : w.heap.size ≤ gb350)); clear HB; have HB := n0_; have BK350 := n1_; have GW350 := n2_; have GE350 := n3_; clear n0_ n1_ n2_ n3_; clear hb hbox hg) | ((with_reducible refine gate_callee (f := 11) rfl ?_); refine goesL_ (some 8) rfl rfl Tryd.func11 (by kernel_rfl) rfl #[.string a0] rfl am ?_; (with_reducible refine (mbx_Read.calls (hG := by first | exact hG | exact Glob.below hG (by first | exact HB.out | (repeat (first | (with_reducible first | exact HB.out | apply below_alloc | apply pw_below_drewN | apply below_drew1 | refine below_set ?_ GE350.out) | exact HB.out))) | exact Glob.drawn hG (d0)) a0 t351 t352 _ A2.out).mono ?_); rintro e w11 ⟨v353, rfl, ho0, hb⟩; refine ⟨_, rfl, ?_⟩; have n0_ := Aside0.mk (Kd.R_lower (Kd.R_newB ho0 (g := gb350) (o := .cells #[.string (⟨#[]⟩ : ByteArray), .string (⟨#[]⟩ : ByteArray), .string (⟨#[]⟩ : ByteArray)] 33 (0, 0)) bk) (below_size bwS)); have n1_ := Aside0.mk (blk_below (g := gb350) (o := .cells #[.string (⟨#[]⟩ : ByteArray), .string (⟨#[]⟩ : ByteArray), .string (⟨#[]⟩ : ByteArray)] 33 (0, 0)) bk hb); have n2_ := Aside0.mk (below_step bwS hb); clear BK350; clear HB; have HO354 := n0_; have BK350 := n1_; have HB := n2_; clear n0_ n1_ n2_; (try clear hb); (try clear hb2); (try clear hk); (try clear hi); (try clear ho0); obtain ⟨Ao12, co12, eo12⟩ := Kd.R_slice HO354.out; subst eo12; have hcz13_0 : w11.cell? ⟨gb350, 0, none⟩ = some (.string (⟨#[]⟩ : ByteArray)) := (blk_cell BK350.out 0).trans rfl; have hcz13_1 : w11.cell? ⟨gb350, 1, none⟩ = some (.string (⟨#[]⟩ : ByteArray)) := (blk_cell BK350.out 1).trans rfl; have hcz13_2 : w11.cell? ⟨gb350, 2, none⟩ = some (.string (⟨#[]⟩ : ByteArray)) := (blk_cell BK350.out 2).trans rfl; have hfz13_0 := blk_frozen BK350.out 0; have hfz13_1 := blk_frozen BK350.out 1; have hfz13_2 := blk_frozen BK350.out 2))
  refine bodyPost_ret (results_ct rfl _ _ gb350 33 #[.string (⟨#[]⟩ : ByteArray), .string (⟨#[]⟩ : ByteArray), .string (⟨#[]⟩ : ByteArray)] (0, 0) _ rfl (by (with_reducible repeat (first | refine blk_drewN ?_ _ | refine blk_drew ?_ | refine blk_alloc ?_ _)); refine blk_put (cs := #[.string (⟨#[]⟩ : ByteArray), .string (⟨#[]⟩ : ByteArray), .string (⟨#[]⟩ : ByteArray)]) ?_ 2 _ rfl; (with_reducible repeat (first | refine blk_drewN ?_ _ | refine blk_drew ?_ | refine blk_alloc ?_ _)); refine blk_put (cs := #[.string (⟨#[]⟩ : ByteArray), .string (⟨#[]⟩ : ByteArray), .string (⟨#[]⟩ : ByteArray)]) ?_ 1 _ rfl; (with_reducible repeat (first | refine blk_drewN ?_ _ | refine blk_drew ?_ | refine blk_alloc ?_ _)); exact blk_put (cs := #[.string (⟨#[]⟩ : ByteArray), .string (⟨#[]⟩ : ByteArray), .string (⟨#[]⟩ : ByteArray)]) bk 0 _ rfl) Tryd.underlying33 rfl (by kernel_rfl)) rfl ?_; exact ⟨ew, bwS⟩
 rw [if_neg c3] at H; have c3b0 := beq_eq_false_iff_ne.mpr c3; have c3b1 := bne_iff_ne.mpr c3; simp only [Option.some.injEq, Prod.mk.injEq] at H; obtain ⟨rfl, rfl, rfl, rfl⟩ := H
 go_enter Tryd.func13, Tryd.ntmps13
 go_wp2_with (first | ((with_reducible refine gate_dst (N := 2) rfl ?_); refine box_event ?hg (N := 2) ?hd (cs := #[.string (⟨#[]⟩ : ByteArray), .string (⟨#[]⟩ : ByteArray), .string (⟨#[]⟩ : ByteArray)]) (t := 33) ?hr ?_; (case hd => rfl); (case hg => rfl); (case hr => first | (go_simp; done) | (go_simp; rfl)); intro gb350 hg w14 hbox hb; have n0_ := Aside0.mk (below_step bw hb); have n1_ := Aside0.mk (hbox); have n2_ := Aside0.mk ((by rw [hg]; exact (below_size bw) : w.heap.size ≤ gb350)); have n3_ := Aside0.mk ((by rw [hg]; exact (below_size bw) : w.heap.size ≤ gb350)); clear HB; have HB := n0_; have BK350 := n1_; have GW350 := n2_; have GE350 := n3_; clear n0_ n1_ n2_ n3_; clear hb hbox hg) | ((with_reducible refine gate_callee (f := 11) rfl ?_); refine goesL_ (some 8) rfl rfl Tryd.func11 (by kernel_rfl) rfl #[.string a0] rfl am ?_; (with_reducible refine (mbx_Read.calls (hG := by first | exact hG | exact Glob.below hG (by first | exact HB.out | (repeat (first | (with_reducible first | exact HB.out | apply below_alloc | apply pw_below_drewN | apply below_drew1 | refine below_set ?_ GE350.out) | exact HB.out))) | exact Glob.drawn hG (d0)) a0 t351 t352 _ A2.out).mono ?_); rintro e w15 ⟨v353, rfl, ho0, hb⟩; refine ⟨_, rfl, ?_⟩; have n0_ := Aside0.mk (Kd.R_lower (Kd.R_newB ho0 (g := gb350) (o := .cells #[.string (⟨#[]⟩ : ByteArray), .string (⟨#[]⟩ : ByteArray), .string (⟨#[]⟩ : ByteArray)] 33 (0, 0)) bk) (below_size bwS)); have n1_ := Aside0.mk (blk_below (g := gb350) (o := .cells #[.string (⟨#[]⟩ : ByteArray), .string (⟨#[]⟩ : ByteArray), .string (⟨#[]⟩ : ByteArray)] 33 (0, 0)) bk hb); have n2_ := Aside0.mk (below_step bwS hb); clear BK350; clear HB; have HO354 := n0_; have BK350 := n1_; have HB := n2_; clear n0_ n1_ n2_; (try clear hb); (try clear hb2); (try clear hk); (try clear hi); (try clear ho0); have hcz16_0 : w15.cell? ⟨gb350, 0, none⟩ = some (.string (⟨#[]⟩ : ByteArray)) := (blk_cell BK350.out 0).trans rfl; have hcz16_1 : w15.cell? ⟨gb350, 1, none⟩ = some (.string (⟨#[]⟩ : ByteArray)) := (blk_cell BK350.out 1).trans rfl; have hcz16_2 : w15.cell? ⟨gb350, 2, none⟩ = some (.string (⟨#[]⟩ : ByteArray)) := (blk_cell BK350.out 2).trans rfl; have hfz16_0 := blk_frozen BK350.out 0; have hfz16_1 := blk_frozen BK350.out 1; have hfz16_2 := blk_frozen BK350.out 2))
 refine bodyPost_ret (results_ct rfl _ _ gb350 33 #[.string (⟨#[]⟩ : ByteArray), .string (⟨#[]⟩ : ByteArray), .string (⟨#[]⟩ : ByteArray)] (0, 0) _ rfl (by (with_reducible repeat (first | refine blk_drewN ?_ _ | refine blk_drew ?_ | refine blk_alloc ?_ _)); refine blk_put (cs := #[.string (⟨#[]⟩ : ByteArray), .string (⟨#[]⟩ : ByteArray), .string (⟨#[]⟩ : ByteArray)]) ?_ 2 _ rfl; (with_reducible repeat (first | refine blk_drewN ?_ _ | refine blk_drew ?_ | refine blk_alloc ?_ _)); refine blk_put (cs := #[.string (⟨#[]⟩ : ByteArray), .string (⟨#[]⟩ : ByteArray), .string (⟨#[]⟩ : ByteArray)]) ?_ 1 _ rfl; (with_reducible repeat (first | refine blk_drewN ?_ _ | refine blk_drew ?_ | refine blk_alloc ?_ _)); exact blk_put (cs := #[.string (⟨#[]⟩ : ByteArray), .string (⟨#[]⟩ : ByteArray), .string (⟨#[]⟩ : ByteArray)]) bk 0 _ rfl) Tryd.underlying33 rfl (by kernel_rfl)) rfl ?_; exact ⟨ew, bwS⟩

end Go.Proofs.YtihabmcaplnbcaaDoor.Fn
namespace Go.Proofs.YtihabmcaplnbcaaDoor.Fn
open Go.RowKit Go.Proofs.YtihabmcaplnbcaaDoorW.PrintWords Go.Proofs.YtihabmcaplnbcaaDoorW.PrintLast Go.Proofs.YtihabmcaplnbcaaDoorW.PrintMore
attribute [local go_sem] max2_int min2_int max_two min_two max_three min_three max_four min_four
set_option linter.unusedVariables false
set_option linter.unusedSimpArgs false

attribute [local go_sem high] eqA33
mutual
def bulletinlaw14_MbxReads.j0 : Nat → List (S40) → Int → Int → Bool → ByteArray → ByteArray → ByteArray → Option (Bool)
 | 0, _, _, _, _, _, _, _ => none
 | k + 1, x5, x6, x8, x37, x377000, x377001, x377002 => if x37 = true then (some false) else (if x6 = 0 then (bulletinlaw14_MbxReads.j1 k x5 x6 x8 ((x5.length : Int) != 1) x377000 x377001 x377002) else (bulletinlaw14_MbxReads.j1 k x5 x6 x8 true x377000 x377001 x377002))
def bulletinlaw14_MbxReads.j1 : Nat → List (S40) → Int → Int → Bool → ByteArray → ByteArray → ByteArray → Option (Bool)
 | 0, _, _, _, _, _, _, _ => none
 | k + 1, x5, x6, x8, x44, x377000, x377001, x377002 => if x44 = true then (if x6 = 0 then (if (x377000.toList == ([] : List UInt8) && ((x377001.toList == ([] : List UInt8) && (x377002.toList == ([] : List UInt8))))) = true then (if x8 = 130 then ((bulletinlaw14_works.f k).bind fun t378 => (some t378)) else (some false)) else (some false)) else (if (x377000.toList == ([] : List UInt8) && ((x377001.toList == ([] : List UInt8) && (x377002.toList == ([] : List UInt8))))) = true then (if x8 = x6 then ((bulletinlaw14_works.f k).bind fun t379 => (some t379)) else (some false)) else (some false))) else (if 0 < (x5.length : Int) then ((bulletinlaw14_To.f ((rd_T40 x5 0).f0) ((rd_T40 x5 0).f1.f0) ((rd_T40 x5 0).f1.f1)).bind fun bt381 => (if (x377000.toList == bt381.1.toList && ((x377001.toList == bt381.2.1.toList && (x377002.toList == bt381.2.2.toList)))) = true then (if x8 = 0 then ((bulletinlaw14_works.f k).bind fun t384 => (some t384)) else (some false)) else (some false))) else (none))
end
def bulletinlaw14_MbxReads.f (k : Nat) (a0 : ByteArray) : Option (Bool) := if (a0.size : Int) > 2000 then ((bulletinlaw14_works.f k).bind fun t363 => (some t363)) else ((mbx_Read.f a0).bind fun bt364 => ((bulletinref14_Read.f k a0).bind fun bt368 => ((mbx_One.f a0).bind fun bt372 => ((bulletinlaw14_Same.f k bt364.1 bt368.1).bind fun t377 => (if t377 = true then (bulletinlaw14_MbxReads.j0 k bt368.1 bt368.2 bt372.2.2.2 (bt364.2 != bt368.2) bt372.1 bt372.2.1 bt372.2.2.1) else (bulletinlaw14_MbxReads.j0 k bt368.1 bt368.2 bt372.2.2.2 true bt372.1 bt372.2.1 bt372.2.2.1))))))
def bulletinlaw14_MbxReads.T13 : Bool × List (List Nat × List Nat) := (true, [([], []), ([], []), ([1], [1]), ([2], [2]), ([3], [3]), ([0, 4], [0, 4]), ([5, 4], [5]), ([6], [6]), ([7, 6], [6, 7]), ([6, 8], [6, 8]), ([9, 6], [9]), ([10, 10], [10]), ([10, 11], [10, 11]), ([12, 11, 0, 1, 2, 3, 4, 5, 6, 7, 8, 9, 10, 11, 12], [12])])
def bulletinlaw14_MbxReads.B13 : List Nat := [0, 0, 2, 6, 14, 31, 63, 127, 255, 511, 1023, 2047, 4095, 8191]
theorem bulletinlaw14_MbxReads.tab13 : rtab .any (opsOf Tryd.f3 13) = bulletinlaw14_MbxReads.T13 := by kernel_rfl
theorem bulletinlaw14_MbxReads.bits13 : waitsOk bulletinlaw14_MbxReads.T13.2 bulletinlaw14_MbxReads.B13 = true := by kernel_rfl
set_option maxHeartbeats 8000000 in
set_option maxRecDepth 100000 in
theorem bulletinlaw14_MbxReads.calls (k : Nat) (a0 : ByteArray) (r : Bool) (w : World) (hG : Glob w) (h : bulletinlaw14_MbxReads.f k a0 = some r) (hT : r = true) :
  Calls Tryd.prog 3 #[.string a0] w fun e w' => e = .returned (.bool r) ∧ Below w.heap.size w w' := by
 have HT := Aside0.mk hT; clear hT; have hu33 := Tryd.underlying33; have hu40 := Tryd.underlying40; have HB := Aside0.mk (Below.refl w.heap.size w); have H : (if (a0.size : Int) > 2000 then ((bulletinlaw14_works.f k).bind fun t363 => (some t363)) else ((mbx_Read.f a0).bind fun bt364 => ((bulletinref14_Read.f k a0).bind fun bt368 => ((mbx_One.f a0).bind fun bt372 => ((bulletinlaw14_Same.f k bt364.1 bt368.1).bind fun t377 => (if t377 = true then (bulletinlaw14_MbxReads.j0 k bt368.1 bt368.2 bt372.2.2.2 (bt364.2 != bt368.2) bt372.1 bt372.2.1 bt372.2.2.1) else (bulletinlaw14_MbxReads.j0 k bt368.1 bt368.2 bt372.2.2.2 true bt372.1 bt372.2.1 bt372.2.2.1))))))) = some r := h; clear h
 by_cases c2 : (a0.size : Int) > 2000
 ·rw [if_pos c2] at H; have c2b0 : decide (2000 < (a0.size : Int)) = true := decide_eq_true c2; have c2b1 : decide (2000 < a0.size) = true := decide_eq_true (by omega); clear c2; replace H := Option.bind_eq_some_iff.mp H; obtain ⟨t363, A30, H⟩ := H; have A3 := Aside0.mk A30; clear A30; obtain rfl := Option.some.inj H
  go_enter Tryd.func3, Tryd.ntmps3
  go_wp2_with (first | ((with_reducible refine gate_callee (f := 10) rfl ?_); refine goesL_ (some 13) rfl rfl Tryd.func10 (by kernel_rfl) rfl #[] rfl am ?_; (with_reducible refine (bulletinlaw14_works.calls (hG := by first | exact hG | exact Glob.below hG (by first | exact HB.out | (repeat (first | (with_reducible first | exact HB.out | apply below_alloc | apply pw_below_drewN | apply below_drew1 | refine below_set ?_ GE376.out) | exact HB.out))) | exact Glob.drawn hG (d0)) k  t363 _ A3.out).mono ?_); rintro e w4 ⟨rfl, hb⟩; refine ⟨_, rfl, ?_⟩; have n0_ := Aside0.mk (below_step bw hb); clear HB; have HB := n0_; clear n0_; (try clear hb); (try clear hb2); (try clear hk); (try clear hi)))
  go_ret
  exact ⟨ew, bw⟩
 rw [if_neg c2] at H; have c2b0 : decide (2000 < (a0.size : Int)) = false := decide_eq_false c2; have c2b1 : decide (2000 < a0.size) = false := decide_eq_false (by omega); clear c2; replace H := Option.bind_eq_some_iff.mp H; obtain ⟨⟨t364, t365⟩, A50, H⟩ := H; replace H : ((bulletinref14_Read.f k a0).bind fun bt368 => ((mbx_One.f a0).bind fun bt372 => ((bulletinlaw14_Same.f k t364 bt368.1).bind fun t377 => (if t377 = true then (bulletinlaw14_MbxReads.j0 k bt368.1 bt368.2 bt372.2.2.2 (t365 != bt368.2) bt372.1 bt372.2.1 bt372.2.2.1) else (bulletinlaw14_MbxReads.j0 k bt368.1 bt368.2 bt372.2.2.2 true bt372.1 bt372.2.1 bt372.2.2.1))))) = some r := H; have A5 := Aside0.mk A50; clear A50; replace H := Option.bind_eq_some_iff.mp H; obtain ⟨⟨t368, t369⟩, A60, H⟩ := H; replace H : ((mbx_One.f a0).bind fun bt372 => ((bulletinlaw14_Same.f k t364 t368).bind fun t377 => (if t377 = true then (bulletinlaw14_MbxReads.j0 k t368 t369 bt372.2.2.2 (t365 != t369) bt372.1 bt372.2.1 bt372.2.2.1) else (bulletinlaw14_MbxReads.j0 k t368 t369 bt372.2.2.2 true bt372.1 bt372.2.1 bt372.2.2.1)))) = some r := H; have A6 := Aside0.mk A60; clear A60; replace H := Option.bind_eq_some_iff.mp H; obtain ⟨⟨t372, t373, t374, t375⟩, A70, H⟩ := H; replace H : ((bulletinlaw14_Same.f k t364 t368).bind fun t377 => (if t377 = true then (bulletinlaw14_MbxReads.j0 k t368 t369 t375 (t365 != t369) t372 t373 t374) else (bulletinlaw14_MbxReads.j0 k t368 t369 t375 true t372 t373 t374))) = some r := H; have A7 := Aside0.mk A70; clear A70; have HC8 := Aside0.mk H; clear H
 go_enter Tryd.func3, Tryd.ntmps3
 go_upto_region 6 with (first | ((with_reducible refine gate_callee (f := 11) rfl ?_); refine goesL_ (some 16) rfl rfl Tryd.func11 (by kernel_rfl) rfl #[.string a0] rfl am ?_; (with_reducible refine (mbx_Read.calls (hG := by first | exact hG | exact Glob.below hG (by first | exact HB.out | (repeat (first | (with_reducible first | exact HB.out | apply below_alloc | apply pw_below_drewN | apply below_drew1 | refine below_set ?_ GE376.out) | exact HB.out))) | exact Glob.drawn hG (d0)) a0 t364 t365 _ A5.out).mono ?_); rintro e w9 ⟨v366, rfl, ho0, hb⟩; refine ⟨_, rfl, ?_⟩; have n0_ := Aside0.mk (Kd.R_lower ho0 (below_size bw)); have n1_ := Aside0.mk (below_step bw hb); clear HB; have HO367 := n0_; have HB := n1_; clear n0_ n1_; (try clear hb); (try clear hb2); (try clear hk); (try clear hi); (try clear ho0)) | ((with_reducible refine gate_callee (f := 12) rfl ?_); refine goesL_ (some 21) rfl rfl Tryd.func12 (by kernel_rfl) rfl #[.string a0] rfl am ?_; (with_reducible refine (bulletinref14_Read.calls k a0 t368 t369 _ A6.out).mono ?_); rintro e w10 ⟨v370, rfl, ho0, hb⟩; refine ⟨_, rfl, ?_⟩; have n0_ := Aside0.mk (Kd.R_below (ra HO367.out) hb); have n1_ := Aside0.mk (Kd.R_lower ho0 (below_size bw)); have n2_ := Aside0.mk (below_step bw hb); clear HO367; clear HB; have HO367 := n0_; have HO371 := n1_; have HB := n2_; clear n0_ n1_ n2_; (try clear hb); (try clear hb2); (try clear hk); (try clear hi); (try clear ho0)) | ((with_reducible refine gate_callee (f := 13) rfl ?_); refine goesL_ (some 26) rfl rfl Tryd.func13 (by kernel_rfl) rfl #[.string a0] rfl am ?_; (with_reducible refine (mbx_One.calls (hG := by first | exact hG | exact Glob.below hG (by first | exact HB.out | (repeat (first | (with_reducible first | exact HB.out | apply below_alloc | apply pw_below_drewN | apply below_drew1 | refine below_set ?_ GE376.out) | exact HB.out))) | exact Glob.drawn hG (d0)) a0 t372 t373 t374 t375 _ A7.out).mono ?_); rintro e w11 ⟨rfl, hb⟩; refine ⟨_, rfl, ?_⟩; have n0_ := Aside0.mk (Kd.R_below (ra HO367.out) hb); have n1_ := Aside0.mk (Kd.R_below (ra HO371.out) hb); have n2_ := Aside0.mk (below_step bw hb); clear HO367; clear HO371; clear HB; have HO367 := n0_; have HO371 := n1_; have HB := n2_; clear n0_ n1_ n2_; (try clear hb); (try clear hb2); (try clear hk); (try clear hi)) | ((with_reducible refine gate_dst (N := 7) rfl ?_); (try (refine gate_guard (by rfl) ?_; dsimp only)); refine box_event ?hg (N := 7) ?hd (cs := #[.string (⟨#[]⟩ : ByteArray), .string (⟨#[]⟩ : ByteArray), .string (⟨#[]⟩ : ByteArray)]) (t := 33) ?hr ?_; (case hd => rfl); (case hg => rfl); (case hr => first | (go_simp; done) | (go_simp; rfl)); intro gb376 hg w12 hbox hb; have n0_ := Aside0.mk (Kd.R_below (Kd.R_elderB (ra HO367.out) gb376 (Nat.le_of_eq hg.symm)) hb); have n1_ := Aside0.mk (Kd.R_below (ra HO371.out) hb); have n2_ := Aside0.mk (below_step bw hb); have n3_ := Aside0.mk (hbox); have n4_ := Aside0.mk ((by rw [hg]; exact (below_size bw) : w.heap.size ≤ gb376)); have n5_ := Aside0.mk ((by rw [hg]; exact (below_size bw) : w.heap.size ≤ gb376)); clear HO367; clear HO371; clear HB; have HO367 := n0_; have HO371 := n1_; have HB := n2_; have BK376 := n3_; have GW376 := n4_; have GE376 := n5_; clear n0_ n1_ n2_ n3_ n4_ n5_; clear hb hbox hg; have hcz13_0 : w12.cell? ⟨gb376, 0, none⟩ = some (.string (⟨#[]⟩ : ByteArray)) := (blk_cell BK376.out 0).trans rfl; have hcz13_1 : w12.cell? ⟨gb376, 1, none⟩ = some (.string (⟨#[]⟩ : ByteArray)) := (blk_cell BK376.out 1).trans rfl; have hcz13_2 : w12.cell? ⟨gb376, 2, none⟩ = some (.string (⟨#[]⟩ : ByteArray)) := (blk_cell BK376.out 2).trans rfl; have hfz13_0 := blk_frozen BK376.out 0; have hfz13_1 := blk_frozen BK376.out 1; have hfz13_2 := blk_frozen BK376.out 2))
 (try simp only [Act.put, List.setIfInBounds_toArray, List.set_cons_zero, List.set_cons_succ])
 go_cut [37] (fun v37 wc => ∃ (kq : Nat) (x37_7 : Bool), v37 = .bool x37_7 ∧ Aside0 (bulletinlaw14_MbxReads.j0 kq t368 t369 t375 x37_7 t372 t373 t374 = some r) ∧ Aside0 (kq ≤ k) ∧ Aside0 (Kd.R k40 40 wc w.heap.size (fun _ => True) v370 t368) ∧ Aside0 (wc.heap[gb376]? = some (.cells #[.string t372, .string t373, .string t374] 33 (0, 0))) ∧ Aside0 (Below w.heap.size w wc))
 case first =>
  have H := HC8.out; clear HC8; replace H := Option.bind_eq_some_iff.mp H; obtain ⟨t377, A140, H⟩ := H; have A14 := Aside0.mk A140; clear A140
  by_cases c15 : t377 = true
  ·subst c15; rw [if_pos rfl] at H; have H' := Aside0.mk H; clear H; obtain ⟨Ao16, co16, eo16⟩ := Kd.R_slice HO367.out; subst eo16; obtain ⟨Ao17, co17, eo17⟩ := Kd.R_slice HO371.out; subst eo17
   go_wp2_with (first | ((with_reducible refine gate_callee (f := 14) rfl ?_); refine goesL_ (some 31) rfl rfl Tryd.func14 (by kernel_rfl) rfl #[.slice Ao16 t364.length co16, .slice Ao17 t368.length co17] rfl am ?_; (with_reducible refine (bulletinlaw14_Same.calls k _ _ t364 _ _ t368 true _ ?side1 ?side2 ?side3 ?side4 A14.out).mono ?_); (case side1 => refine (Kd.R_reads' (e := 33) (base := w.heap.size) (ok := fun k_ => (True ∧ k_ ≠ gb376)) (n := t364.length) (c := co16) ?_).2.2; exact (ra ((Kd.R_mono (Kd.R_far (p := ⟨gb376, 2, none⟩) (Kd.R_far (p := ⟨gb376, 1, none⟩) (Kd.R_far (p := ⟨gb376, 0, none⟩) (Kd.R_mono HO367.out (fun k_ hk => (⟨hk, hk.2⟩ : _ ∧ k_ ≠ gb376))) (fun _ hk => hk.2) (.string t372)) (fun _ hk => hk.2) (.string t373)) (fun _ hk => hk.2) (.string t374)) (fun _ h_ => h_.1))))); (case side2 => exact (Kd.R_reads' HO367.out).2.1); (case side3 => refine (Kd.R_reads' (e := 40) (base := w.heap.size) (ok := fun k_ => True) (n := t368.length) (c := co17) ?_).2.2; exact (by (with_reducible repeat (first | apply Kd.R_alloc | apply Kd.R_drewN | apply Kd.R_drew)); exact (Kd.R_mono (Kd.R_far (p := ⟨gb376, 2, none⟩) (Kd.R_far (p := ⟨gb376, 1, none⟩) (Kd.R_far (p := ⟨gb376, 0, none⟩) (Kd.R_types HO371.out BK376.out (by decide)) (fun _ hk => hk.2) (.string t372)) (fun _ hk => hk.2) (.string t373)) (fun _ hk => hk.2) (.string t374)) (fun _ h_ => h_.1)))); (case side4 => exact (Kd.R_reads' HO371.out).2.1); rintro e w18 ⟨rfl, hb⟩; refine ⟨_, rfl, ?_⟩; have n0_ := Aside0.mk (Kd.R_below (ra ((Kd.R_mono (Kd.R_far (p := ⟨gb376, 2, none⟩) (Kd.R_far (p := ⟨gb376, 1, none⟩) (Kd.R_far (p := ⟨gb376, 0, none⟩) (Kd.R_mono HO367.out (fun k_ hk => (⟨hk, hk.2⟩ : _ ∧ k_ ≠ gb376))) (fun _ hk => hk.2) (.string t372)) (fun _ hk => hk.2) (.string t373)) (fun _ hk => hk.2) (.string t374)) (fun _ h_ => h_.1)))) hb); have n1_ := Aside0.mk (Kd.R_below (by (with_reducible repeat (first | apply Kd.R_alloc | apply Kd.R_drewN | apply Kd.R_drew)); exact (Kd.R_mono (Kd.R_far (p := ⟨gb376, 2, none⟩) (Kd.R_far (p := ⟨gb376, 1, none⟩) (Kd.R_far (p := ⟨gb376, 0, none⟩) (Kd.R_types HO371.out BK376.out (by decide)) (fun _ hk => hk.2) (.string t372)) (fun _ hk => hk.2) (.string t373)) (fun _ hk => hk.2) (.string t374)) (fun _ h_ => h_.1))) hb); have n2_ := Aside0.mk (blk_below (g := gb376) (o := .cells #[.string t372, .string t373, .string t374] 33 (0, 0)) (by (with_reducible repeat (first | refine blk_drewN ?_ _ | refine blk_drew ?_ | refine blk_alloc ?_ _)); refine blk_put (cs := #[.string t372, .string t373, .string (⟨#[]⟩ : ByteArray)]) ?_ 2 _ rfl; (with_reducible repeat (first | refine blk_drewN ?_ _ | refine blk_drew ?_ | refine blk_alloc ?_ _)); refine blk_put (cs := #[.string t372, .string (⟨#[]⟩ : ByteArray), .string (⟨#[]⟩ : ByteArray)]) ?_ 1 _ rfl; (with_reducible repeat (first | refine blk_drewN ?_ _ | refine blk_drew ?_ | refine blk_alloc ?_ _)); exact blk_put (cs := #[.string (⟨#[]⟩ : ByteArray), .string (⟨#[]⟩ : ByteArray), .string (⟨#[]⟩ : ByteArray)]) bk 0 _ rfl) hb); have n3_ := Aside0.mk (below_step bwS hb); clear HO367; clear HO371; clear BK376; clear HB; have HO367 := n0_; have HO371 := n1_; have BK376 := n2_; have HB := n3_; clear n0_ n1_ n2_ n3_; (try clear hb); (try clear hb2); (try clear hk); (try clear hi)))
   go_meet
   case rel => exact ⟨_, ((t365 != t369)), cl, H', ⟨by first | omega | exact Nat.le_refl _⟩, ⟨ra HO371.out⟩, ⟨bk⟩, ⟨bwS⟩⟩
  replace c15 := Bool.eq_false_iff.mpr c15; subst c15; rw [if_neg nft] at H; have H' := Aside0.mk H; clear H; obtain ⟨Ao19, co19, eo19⟩ := Kd.R_slice HO367.out; subst eo19; obtain ⟨Ao20, co20, eo20⟩ := Kd.R_slice HO371.out; subst eo20
  go_wp2_with (first | ((with_reducible refine gate_callee (f := 14) rfl ?_); refine goesL_ (some 31) rfl rfl Tryd.func14 (by kernel_rfl) rfl #[.slice Ao19 t364.length co19, .slice Ao20 t368.length co20] rfl am ?_; (with_reducible refine (bulletinlaw14_Same.calls k _ _ t364 _ _ t368 false _ ?side1 ?side2 ?side3 ?side4 A14.out).mono ?_); (case side1 => refine (Kd.R_reads' (e := 33) (base := w.heap.size) (ok := fun k_ => (True ∧ k_ ≠ gb376)) (n := t364.length) (c := co19) ?_).2.2; exact (ra ((Kd.R_mono (Kd.R_far (p := ⟨gb376, 2, none⟩) (Kd.R_far (p := ⟨gb376, 1, none⟩) (Kd.R_far (p := ⟨gb376, 0, none⟩) (Kd.R_mono HO367.out (fun k_ hk => (⟨hk, hk.2⟩ : _ ∧ k_ ≠ gb376))) (fun _ hk => hk.2) (.string t372)) (fun _ hk => hk.2) (.string t373)) (fun _ hk => hk.2) (.string t374)) (fun _ h_ => h_.1))))); (case side2 => exact (Kd.R_reads' HO367.out).2.1); (case side3 => refine (Kd.R_reads' (e := 40) (base := w.heap.size) (ok := fun k_ => True) (n := t368.length) (c := co20) ?_).2.2; exact (by (with_reducible repeat (first | apply Kd.R_alloc | apply Kd.R_drewN | apply Kd.R_drew)); exact (Kd.R_mono (Kd.R_far (p := ⟨gb376, 2, none⟩) (Kd.R_far (p := ⟨gb376, 1, none⟩) (Kd.R_far (p := ⟨gb376, 0, none⟩) (Kd.R_types HO371.out BK376.out (by decide)) (fun _ hk => hk.2) (.string t372)) (fun _ hk => hk.2) (.string t373)) (fun _ hk => hk.2) (.string t374)) (fun _ h_ => h_.1)))); (case side4 => exact (Kd.R_reads' HO371.out).2.1); rintro e w21 ⟨rfl, hb⟩; refine ⟨_, rfl, ?_⟩; have n0_ := Aside0.mk (Kd.R_below (ra ((Kd.R_mono (Kd.R_far (p := ⟨gb376, 2, none⟩) (Kd.R_far (p := ⟨gb376, 1, none⟩) (Kd.R_far (p := ⟨gb376, 0, none⟩) (Kd.R_mono HO367.out (fun k_ hk => (⟨hk, hk.2⟩ : _ ∧ k_ ≠ gb376))) (fun _ hk => hk.2) (.string t372)) (fun _ hk => hk.2) (.string t373)) (fun _ hk => hk.2) (.string t374)) (fun _ h_ => h_.1)))) hb); have n1_ := Aside0.mk (Kd.R_below (by (with_reducible repeat (first | apply Kd.R_alloc | apply Kd.R_drewN | apply Kd.R_drew)); exact (Kd.R_mono (Kd.R_far (p := ⟨gb376, 2, none⟩) (Kd.R_far (p := ⟨gb376, 1, none⟩) (Kd.R_far (p := ⟨gb376, 0, none⟩) (Kd.R_types HO371.out BK376.out (by decide)) (fun _ hk => hk.2) (.string t372)) (fun _ hk => hk.2) (.string t373)) (fun _ hk => hk.2) (.string t374)) (fun _ h_ => h_.1))) hb); have n2_ := Aside0.mk (blk_below (g := gb376) (o := .cells #[.string t372, .string t373, .string t374] 33 (0, 0)) (by (with_reducible repeat (first | refine blk_drewN ?_ _ | refine blk_drew ?_ | refine blk_alloc ?_ _)); refine blk_put (cs := #[.string t372, .string t373, .string (⟨#[]⟩ : ByteArray)]) ?_ 2 _ rfl; (with_reducible repeat (first | refine blk_drewN ?_ _ | refine blk_drew ?_ | refine blk_alloc ?_ _)); refine blk_put (cs := #[.string t372, .string (⟨#[]⟩ : ByteArray), .string (⟨#[]⟩ : ByteArray)]) ?_ 1 _ rfl; (with_reducible repeat (first | refine blk_drewN ?_ _ | refine blk_drew ?_ | refine blk_alloc ?_ _)); exact blk_put (cs := #[.string (⟨#[]⟩ : ByteArray), .string (⟨#[]⟩ : ByteArray), .string (⟨#[]⟩ : ByteArray)]) bk 0 _ rfl) hb); have n3_ := Aside0.mk (below_step bwS hb); clear HO367; clear HO371; clear BK376; clear HB; have HO367 := n0_; have HO371 := n1_; have BK376 := n2_; have HB := n3_; clear n0_ n1_ n2_ n3_; (try clear hb); (try clear hb2); (try clear hk); (try clear hi)))
  go_meet
  case rel => exact ⟨_, (true), cl, H', ⟨by first | omega | exact Nat.le_refl _⟩, ⟨ra HO371.out⟩, ⟨bk⟩, ⟨bwS⟩⟩
 case rest =>
  clear HC8
  try clear c1
  try clear c2
  try clear c2b0
  try clear c2b1
  try clear p2
  try clear c3
  try clear c10
  try clear c11
  try clear c12
  try clear c13
  try clear c14
  try clear c15
  try clear hcz13_0
  try clear hcz13_1
  try clear hcz13_2
  try clear hfz13_0
  try clear hfz13_1
  try clear hfz13_2
  obtain ⟨kq, x37_7, rfl, HA, HJ7, HO_5, BK376, HB⟩ := hcut; cases kq with
  | zero => exact absurd HA.out (by simp [bulletinlaw14_MbxReads.j0])
  | succ kj7 =>
   have H := HA.out; clear HA; simp only [bulletinlaw14_MbxReads.j0] at H
   by_cases c22 : x37_7 = true
   ·subst c22; rw [if_pos rfl] at H; obtain rfl := Option.some.inj H; exact absurd HT.out (by decide)
   replace c22 := Bool.eq_false_iff.mpr c22; subst c22; rw [if_neg nft] at H; have HC23 := Aside0.mk H; clear H
   go_upto_region 8 with (fail)
   go_cut [44] (fun v44 wc => ∃ (kq : Nat) (x44_22 : Bool), v44 = .bool x44_22 ∧ Aside0 (bulletinlaw14_MbxReads.j1 kq t368 t369 t375 x44_22 t372 t373 t374 = some r) ∧ Aside0 (kq ≤ kj7) ∧ Aside0 (Kd.R k40 40 wc w.heap.size (fun _ => True) v370 t368) ∧ Aside0 (wc.heap[gb376]? = some (.cells #[.string t372, .string t373, .string t374] 33 (0, 0))) ∧ Aside0 (Below w.heap.size w wc))
   case first =>
    have H := HC23.out; clear HC23
    by_cases c24 : t369 = 0
    ·rw [if_pos c24] at H; have c24b0 := beq_iff_eq.mpr c24; have c24b1 := bne_eq_false_iff_eq.mpr c24; clear c24
     (first | rw [c24b0] | (simp only [i64_w, i32_w]; rw [c24b0]) | skip)
     have H' := Aside0.mk H; clear H; obtain ⟨Ao25, co25, eo25⟩ := Kd.R_slice HO_5.out; subst eo25
     go_wp2
     go_meet
     case rel => exact ⟨_, (((t368.length : Int) != 1)), cl, H', ⟨by have := HJ7.out; first | omega | exact Nat.le_refl _⟩, ⟨ra HO_5.out⟩, ⟨bk⟩, ⟨bwS⟩⟩
    rw [if_neg c24] at H; have c24b0 := beq_eq_false_iff_ne.mpr c24; have c24b1 := bne_iff_ne.mpr c24
    (first | rw [c24b0] | (simp only [i64_w, i32_w]; rw [c24b0]) | skip)
    have H' := Aside0.mk H; clear H
    go_wp2
    go_meet
    case rel => exact ⟨_, (true), cl, H', ⟨by have := HJ7.out; first | omega | exact Nat.le_refl _⟩, ⟨ra HO_5.out⟩, ⟨bk⟩, ⟨bwS⟩⟩
   case rest =>
    clear HC23
    try clear c1
    try clear c2
    try clear c2b0
    try clear c2b1
    try clear p2
    try clear c3
    try clear c10
    try clear c11
    try clear c12
    try clear c13
    try clear c14
    try clear c15
    try clear c22
    try clear c24
    try clear c24b0
    try clear c24b1
    try clear hcz13_0
    try clear hcz13_1
    try clear hcz13_2
    try clear hfz13_0
    try clear hfz13_1
    try clear hfz13_2
    try clear p2
    obtain ⟨kq, x44_22, rfl, HA, HJ22, HO_5, BK376, HB⟩ := hcut; cases kq with
    | zero => exact absurd HA.out (by simp [bulletinlaw14_MbxReads.j1])
    | succ kj22 =>
     have H := HA.out; clear HA; simp only [bulletinlaw14_MbxReads.j1] at H
     by_cases c26 : x44_22 = true
     ·subst c26; rw [if_pos rfl] at H
      by_cases c27 : t369 = 0
      ·rw [if_pos c27] at H; have c27b0 := beq_iff_eq.mpr c27; have c27b1 := bne_eq_false_iff_eq.mpr c27; clear c27
       by_cases c28 : (t372.toList == ([] : List UInt8) && ((t373.toList == ([] : List UInt8) && (t374.toList == ([] : List UInt8))))) = true
       ·rw [if_pos c28] at H; have c28b0 : (t372.toList == ([] : List UInt8) && ((t373.toList == ([] : List UInt8) && (t374.toList == ([] : List UInt8))))) = true := c28; have c28b3 : (t372.toList = ([] : List UInt8) ∧ t373.toList = ([] : List UInt8) ∧ t374.toList = ([] : List UInt8)) = True := eq_true (by simpa using c28)
        (try (have c28b1 : decide (t372.toList = ([] : List UInt8) && ((t373.toList == ([] : List UInt8) && (t374.toList == ([] : List UInt8))))) = true := by simpa using c28))
        (try (have c28b2 : (t372.toList == ([] : List UInt8) && ((t373.toList == ([] : List UInt8) && (t374.toList == ([] : List UInt8))))) = true := by simpa using c28))
        clear c28
        by_cases c29 : t375 = 130
        ·rw [if_pos c29] at H; have c29b0 := beq_iff_eq.mpr c29; have c29b1 := bne_eq_false_iff_eq.mpr c29; clear c29; replace H := Option.bind_eq_some_iff.mp H; obtain ⟨t378, A300, H⟩ := H; have A30 := Aside0.mk A300; clear A300; obtain rfl := Option.some.inj H; obtain ⟨hcz31_0, hcz31_1, hcz31_2, hfz31_0, hfz31_1, hfz31_2⟩ := bk3 BK376.out
         go_wp2_with (first | (go_at_call 10; (with_reducible refine (bulletinlaw14_works.calls (hG := by first | exact hG | exact Glob.below hG (by first | exact HB.out | (repeat (first | (with_reducible first | exact HB.out | apply below_alloc | apply pw_below_drewN | apply below_drew1 | refine below_set ?_ GE376.out) | exact HB.out))) | exact Glob.drawn hG (d0)) kj22  t378 _ A30.out).mono ?_); rintro e w32 ⟨rfl, hb⟩; have n0_ := Aside0.mk (Kd.R_below (ra HO_5.out) hb); have n1_ := Aside0.mk (blk_below (g := gb376) (o := .cells #[.string t372, .string t373, .string t374] 33 (0, 0)) bk hb); have n2_ := Aside0.mk (below_step bwS hb); clear HO_5; clear BK376; clear HB; have HO_5 := n0_; have BK376 := n1_; have HB := n2_; clear n0_ n1_ n2_; (try clear hb); (try clear hb2); (try clear hk); (try clear hi)))
         go_ret
         exact ⟨ew, bwS⟩
        rw [if_neg c29] at H; have c29b0 := beq_eq_false_iff_ne.mpr c29; have c29b1 := bne_iff_ne.mpr c29; obtain rfl := Option.some.inj H; exact absurd HT.out (by decide)
       rw [if_neg c28] at H; have c28b0 : (t372.toList == ([] : List UInt8) && ((t373.toList == ([] : List UInt8) && (t374.toList == ([] : List UInt8))))) = false := by simpa using c28
       have c28b3 : (t372.toList = ([] : List UInt8) ∧ t373.toList = ([] : List UInt8) ∧ t374.toList = ([] : List UInt8)) = False := eq_false (by simpa using c28)
       (try (have c28b1 : decide (t372.toList = ([] : List UInt8) && ((t373.toList == ([] : List UInt8) && (t374.toList == ([] : List UInt8))))) = false := by simpa using c28))
       (try (have c28b2 : (t372.toList == ([] : List UInt8) && ((t373.toList == ([] : List UInt8) && (t374.toList == ([] : List UInt8))))) = false := by simpa using c28))
       (try (have c28b3 : ¬ (t372.toList = ([] : List UInt8) && ((t373.toList == ([] : List UInt8) && (t374.toList == ([] : List UInt8))))) := by simpa using c28))
       clear c28; obtain rfl := Option.some.inj H; exact absurd HT.out (by decide)
      rw [if_neg c27] at H; have c27b0 := beq_eq_false_iff_ne.mpr c27; have c27b1 := bne_iff_ne.mpr c27
      by_cases c35 : (t372.toList == ([] : List UInt8) && ((t373.toList == ([] : List UInt8) && (t374.toList == ([] : List UInt8))))) = true
      ·rw [if_pos c35] at H; have c35b0 : (t372.toList == ([] : List UInt8) && ((t373.toList == ([] : List UInt8) && (t374.toList == ([] : List UInt8))))) = true := c35; have c35b3 : (t372.toList = ([] : List UInt8) ∧ t373.toList = ([] : List UInt8) ∧ t374.toList = ([] : List UInt8)) = True := eq_true (by simpa using c35)
       (try (have c35b1 : decide (t372.toList = ([] : List UInt8) && ((t373.toList == ([] : List UInt8) && (t374.toList == ([] : List UInt8))))) = true := by simpa using c35))
       (try (have c35b2 : (t372.toList == ([] : List UInt8) && ((t373.toList == ([] : List UInt8) && (t374.toList == ([] : List UInt8))))) = true := by simpa using c35))
       clear c35
       by_cases c36 : t375 = t369
       ·rw [if_pos c36] at H; have c36b0 := beq_iff_eq.mpr c36; have c36b1 := bne_eq_false_iff_eq.mpr c36; clear c36; replace H := Option.bind_eq_some_iff.mp H; obtain ⟨t379, A370, H⟩ := H; have A37 := Aside0.mk A370; clear A370; obtain rfl := Option.some.inj H; obtain ⟨hcz38_0, hcz38_1, hcz38_2, hfz38_0, hfz38_1, hfz38_2⟩ := bk3 BK376.out
        go_wp2_with (first | (go_at_call 10; (with_reducible refine (bulletinlaw14_works.calls (hG := by first | exact hG | exact Glob.below hG (by first | exact HB.out | (repeat (first | (with_reducible first | exact HB.out | apply below_alloc | apply pw_below_drewN | apply below_drew1 | refine below_set ?_ GE376.out) | exact HB.out))) | exact Glob.drawn hG (d0)) kj22  t379 _ A37.out).mono ?_); rintro e w39 ⟨rfl, hb⟩; have n0_ := Aside0.mk (Kd.R_below (ra HO_5.out) hb); have n1_ := Aside0.mk (blk_below (g := gb376) (o := .cells #[.string t372, .string t373, .string t374] 33 (0, 0)) bk hb); have n2_ := Aside0.mk (below_step bwS hb); clear HO_5; clear BK376; clear HB; have HO_5 := n0_; have BK376 := n1_; have HB := n2_; clear n0_ n1_ n2_; (try clear hb); (try clear hb2); (try clear hk); (try clear hi)))
        go_ret
        exact ⟨ew, bwS⟩
       rw [if_neg c36] at H; have c36b0 := beq_eq_false_iff_ne.mpr c36; have c36b1 := bne_iff_ne.mpr c36; obtain rfl := Option.some.inj H; exact absurd HT.out (by decide)
      rw [if_neg c35] at H; have c35b0 : (t372.toList == ([] : List UInt8) && ((t373.toList == ([] : List UInt8) && (t374.toList == ([] : List UInt8))))) = false := by simpa using c35
      have c35b3 : (t372.toList = ([] : List UInt8) ∧ t373.toList = ([] : List UInt8) ∧ t374.toList = ([] : List UInt8)) = False := eq_false (by simpa using c35)
      (try (have c35b1 : decide (t372.toList = ([] : List UInt8) && ((t373.toList == ([] : List UInt8) && (t374.toList == ([] : List UInt8))))) = false := by simpa using c35))
      (try (have c35b2 : (t372.toList == ([] : List UInt8) && ((t373.toList == ([] : List UInt8) && (t374.toList == ([] : List UInt8))))) = false := by simpa using c35))
      (try (have c35b3 : ¬ (t372.toList = ([] : List UInt8) && ((t373.toList == ([] : List UInt8) && (t374.toList == ([] : List UInt8))))) := by simpa using c35))
      clear c35; obtain rfl := Option.some.inj H; exact absurd HT.out (by decide)
     replace c26 := Bool.eq_false_iff.mpr c26; subst c26; rw [if_neg nft] at H
     by_cases c42 : 0 < (t368.length : Int)
     ·rw [if_pos c42] at H; have c42b0 := decide_eq_true c42; have c42b1 : decide (0 < t368.length) = true := decide_eq_true (by omega); clear c42; replace H := Option.bind_eq_some_iff.mp H; obtain ⟨⟨t381, t382, t383⟩, A430, H⟩ := H; replace H : (if (t372.toList == t381.toList && ((t373.toList == t382.toList && (t374.toList == t383.toList)))) = true then (if t375 = 0 then ((bulletinlaw14_works.f kj22).bind fun t384 => (some t384)) else (some false)) else (some false)) = some r := H; have A43 := Aside0.mk A430; clear A430
      by_cases c44 : (t372.toList == t381.toList && ((t373.toList == t382.toList && (t374.toList == t383.toList)))) = true
      ·rw [if_pos c44] at H; have c44b0 : (t372.toList == t381.toList && ((t373.toList == t382.toList && (t374.toList == t383.toList)))) = true := c44
       (try (have c44b1 : decide (t372.toList = t381.toList && ((t373.toList == t382.toList && (t374.toList == t383.toList)))) = true := by simpa using c44))
       (try (have c44b2 : (t372.toList == t381.toList && ((t373.toList == t382.toList && (t374.toList == t383.toList)))) = true := by simpa using c44))
       clear c44
       by_cases c45 : t375 = 0
       ·rw [if_pos c45] at H; have c45b0 := beq_iff_eq.mpr c45; have c45b1 := bne_eq_false_iff_eq.mpr c45; clear c45; replace H := Option.bind_eq_some_iff.mp H; obtain ⟨t384, A460, H⟩ := H; have A46 := Aside0.mk A460; clear A460; obtain rfl := Option.some.inj H
        try go_wp2
        have n0_ := Aside0.mk (Kd.R_drew HO_5.out); have n1_ := Aside0.mk (blk_drew BK376.out); have n2_ := Aside0.mk (below_drew1 HB.out); clear HO_5 BK376 HB; have HO_5 := n0_; have BK376 := n1_; have HB := n2_; clear n0_ n1_ n2_; obtain ⟨Ao48, co48, eo48⟩ := Kd.R_slice HO_5.out
        (first | subst eo48 | (injection eo48 with f1_ f2_ f3_; have f4_ := f1_.symm; have f5_ := f3_.symm; clear f1_ f2_ f3_; subst f4_; subst f5_))
        have p380 : 0 ≤ (0 : Int) := (by omega)
        have q380 : 0 < (t368.length : Int) := od; obtain ⟨ad380, e380, hx380_0, hx380_1, hx380_2⟩ := at_T40 (Kd.R_reads' HO_5.out).2.2 0 p380 q380; cases e380; have qi380 : (0 < t368.length) = True := eq_true (by omega)
        (try rw [show ((0 : Int)).toNat = 0 from rfl] at hx380_0)
        (try rw [show 0 * 3 = 0 from rfl] at hx380_0)
        (try rw [Addr.add_zero'] at hx380_0)
        (try rw [show ((0 : Int)).toNat = 0 from rfl] at hx380_1)
        (try rw [show 0 * 3 = 0 from rfl] at hx380_1)
        (try rw [Addr.add_zero'] at hx380_1)
        (try rw [show ((0 : Int)).toNat = 0 from rfl] at hx380_2)
        (try rw [show 0 * 3 = 0 from rfl] at hx380_2)
        (try rw [Addr.add_zero'] at hx380_2)
        replace p380 := eq_true p380; replace q380 := eq_true q380; refine start_ (n := 14) (S := fun w' => w'.cell? ⟨gb376, 0, none⟩ = some (.string t372) ∧ w'.cell? ⟨gb376, 1, none⟩ = some (.string t373) ∧ w'.cell? ⟨gb376, 2, none⟩ = some (.string t374) ∧ w'.cell? ad380 = some (.string ((rd_T40 t368 0).f0)) ∧ w'.cell? ⟨ad380.block, ad380.off + 1, none⟩ = some (.string ((rd_T40 t368 0).f1.f0)) ∧ w'.cell? ⟨ad380.block, ad380.off + 2, none⟩ = some (.string ((rd_T40 t368 0).f1.f1))) (ds := []) #[false, false, false, false, false, false, false, false, false, false, false, false, false, false] (by kernel_rfl) rfl rfl ⟨(blk_cell BK376.out 0).trans rfl, (blk_cell BK376.out 1).trans rfl, (blk_cell BK376.out 2).trans rfl, hx380_0, hx380_1, hx380_2⟩ (fun hHeld => ?_); refine with_tabW bulletinlaw14_MbxReads.tab13 bulletinlaw14_MbxReads.bits13 (fun HT_ HW_ => ?_)
        generalize wc.drew = w47 at HO_5 BK376 HB hx380_0 hx380_1 hx380_2 hHeld ⊢
        refine pure_ (i := 1) (N := some 60) (v := ?_) (a' := ?_) (bitsL 14 2) rfl rfl (any_of HT_.out (by kernel_rfl)) (fun _ _ _ h => h) (Or.inl ⟨by rfl, ?_⟩) ?_ ?_; rotate_left
        ·intro w'; go_simp; with_reducible rfl
        rotate_left
        ·simp only [Act.put, List.setIfInBounds_toArray, List.set_cons_zero, List.set_cons_succ, i64_w, i32_w]; rfl
        refine pure_ (i := 2) (N := some 61) (v := ?_) (a' := ?_) (bitsL 14 6) rfl rfl (any_of HT_.out (by kernel_rfl)) (fun _ _ _ h => h) (Or.inl ⟨by rfl, ?_⟩) ?_ ?_; rotate_left
        ·intro w'; go_simp; with_reducible rfl
        rotate_left
        ·simp only [Act.put, List.setIfInBounds_toArray, List.set_cons_zero, List.set_cons_succ, i64_w, i32_w]; rfl
        refine take_ (i := 0) (N := some 59) (v := ?_) (a' := ?_) (bitsL 14 7) rfl rfl (take_ofW HT_.out HW_.out (by kernel_rfl)) (fun _ _ _ h => h) (Or.inl ⟨by rfl, ?_⟩) hHeld ?_ ?_; rotate_left
        ·rintro w' ⟨s0, s1, s2, s3, s4, s5⟩; go_simp; with_reducible rfl
        rotate_left
        ·simp only [Act.put, List.setIfInBounds_toArray, List.set_cons_zero, List.set_cons_succ, i64_w, i32_w]; rfl
        refine take_ (i := 3) (N := some 62) (v := ?_) (a' := ?_) (bitsL 14 15) rfl rfl (take_ofW HT_.out HW_.out (by kernel_rfl)) (fun _ _ _ h => h) (Or.inl ⟨by rfl, ?_⟩) hHeld ?_ ?_; rotate_left
        ·rintro w' ⟨s0, s1, s2, s3, s4, s5⟩; go_simp; with_reducible rfl
        rotate_left
        ·simp only [Act.put, List.setIfInBounds_toArray, List.set_cons_zero, List.set_cons_succ, i64_w, i32_w]; rfl
        refine one_ (i := 4) (N := some 63) (bitsL 14 31) rfl rfl (one_of HT_.out (by kernel_rfl)) (by decide) (fun K hK => ?_); refine goes_ Tryd.func15 (by kernel_rfl) rfl #[.agg #[.string ((rd_T40 t368 0).f0), .string ((rd_T40 t368 0).f1.f0), .string ((rd_T40 t368 0).f1.f1)]] (by rfl) rfl rfl am ?_; with_reducible refine (bulletinlaw14_To.calls ((rd_T40 t368 0).f0) ((rd_T40 t368 0).f1.f0) ((rd_T40 t368 0).f1.f1) t381 t382 t383 _ A43.out).mono ?_; rintro e w49 ⟨rfl, hb⟩; have HS3_ := (hb.cell (World.block_lt_of_cell? _ _ (hHeld.2.2.2.1))).trans (hHeld.2.2.2.1); have HS4_ := (hb.cell (World.block_lt_of_cell? _ _ (hHeld.2.2.2.2.1))).trans (hHeld.2.2.2.2.1); have HS5_ := (hb.cell (World.block_lt_of_cell? _ _ (hHeld.2.2.2.2.2))).trans (hHeld.2.2.2.2.2); refine ⟨_, rfl, ?_⟩; have n0_ := Aside0.mk (Kd.R_below (ra HO_5.out) hb); have n1_ := Aside0.mk (blk_below (g := gb376) (o := .cells #[.string t372, .string t373, .string t374] 33 (0, 0)) bk hb); have n2_ := Aside0.mk (below_step bwS hb); clear HO_5 BK376 HB; have HO_5 := n0_; have BK376 := n1_; have HB := n2_; clear n0_ n1_ n2_
        (try clear hb)
        (try clear hb2)
        (try clear hk)
        (try clear hi)
        refine hK.out _ _ ⟨(blk_cell BK376.out 0).trans rfl, (blk_cell BK376.out 1).trans rfl, (blk_cell BK376.out 2).trans rfl, HS3_, HS4_, HS5_⟩ (fun hHeld => ?_); clear hK K; refine norm_ (a' := ?_) ?_ ?_; rotate_left
        ·show Act.put _ (some 63) _ = _
         simp only [Act.put, List.setIfInBounds_toArray, List.set_cons_zero, List.set_cons_succ, i64_w, i32_w]; rfl
        refine pure_ (i := 5) (N := some 64) (v := ?_) (a' := ?_) (bitsL 14 63) rfl rfl (any_of HT_.out (by kernel_rfl)) (fun _ _ _ h => h) (Or.inl ⟨by rfl, ?_⟩) ?_ ?_; rotate_left
        ·intro w'; go_simp; with_reducible rfl
        rotate_left
        ·simp only [Act.put, List.setIfInBounds_toArray, List.set_cons_zero, List.set_cons_succ, i64_w, i32_w]; rfl
        refine pure_ (i := 6) (N := some 65) (v := ?_) (a' := ?_) (bitsL 14 127) rfl rfl (any_of HT_.out (by kernel_rfl)) (fun _ _ _ h => h) (Or.inl ⟨by rfl, ?_⟩) ?_ ?_; rotate_left
        ·intro w'; go_simp; with_reducible rfl
        rotate_left
        ·simp only [Act.put, List.setIfInBounds_toArray, List.set_cons_zero, List.set_cons_succ, i64_w, i32_w]; rfl
        refine pure_ (i := 7) (N := some 66) (v := ?_) (a' := ?_) (bitsL 14 255) rfl rfl (any_of HT_.out (by kernel_rfl)) (fun _ _ _ h => h) (Or.inl ⟨by rfl, ?_⟩) ?_ ?_; rotate_left
        ·intro w'; go_simp; with_reducible rfl
        rotate_left
        ·simp only [Act.put, List.setIfInBounds_toArray, List.set_cons_zero, List.set_cons_succ, i64_w, i32_w]; rfl
        refine pure_ (i := 8) (N := some 67) (v := ?_) (a' := ?_) (bitsL 14 511) rfl rfl (any_of HT_.out (by kernel_rfl)) (fun _ _ _ h => h) (Or.inl ⟨by rfl, ?_⟩) ?_ ?_; rotate_left
        ·intro w'; go_simp; with_reducible rfl
        rotate_left
        ·simp only [Act.put, List.setIfInBounds_toArray, List.set_cons_zero, List.set_cons_succ, i64_w, i32_w]; rfl
        refine pure_ (i := 9) (N := some 68) (v := ?_) (a' := ?_) (bitsL 14 1023) rfl rfl (any_of HT_.out (by kernel_rfl)) (fun _ _ _ h => h) (Or.inl ⟨by rfl, ?_⟩) ?_ ?_; rotate_left
        ·intro w'; go_simp; with_reducible rfl
        rotate_left
        ·simp only [Act.put, List.setIfInBounds_toArray, List.set_cons_zero, List.set_cons_succ, i64_w, i32_w]; rfl
        refine pure_ (i := 10) (N := some 69) (v := ?_) (a' := ?_) (bitsL 14 2047) rfl rfl (any_of HT_.out (by kernel_rfl)) (fun _ _ _ h => h) (Or.inl ⟨by rfl, ?_⟩) ?_ ?_; rotate_left
        ·intro w'; go_simp; with_reducible rfl
        rotate_left
        ·simp only [Act.put, List.setIfInBounds_toArray, List.set_cons_zero, List.set_cons_succ, i64_w, i32_w]; rfl
        refine one_ (i := 11) (N := some 70) (bitsL 14 4095) rfl rfl (one_of HT_.out (by kernel_rfl)) (by decide) (fun K hK => ?_); refine goes_ Tryd.func10 (by kernel_rfl) rfl #[] (by rfl) rfl rfl am ?_; with_reducible refine (bulletinlaw14_works.calls (hG := by first | exact hG | exact Glob.below hG (by first | exact HB.out | (repeat (first | (with_reducible first | exact HB.out | apply below_alloc | apply pw_below_drewN | apply below_drew1 | refine below_set ?_ GE376.out) | exact HB.out))) | exact Glob.drawn hG (d0)) kj22  t384 _ A46.out).mono ?_; rintro e w50 ⟨rfl, hb⟩; have HS3_ := (hb.cell (World.block_lt_of_cell? _ _ (hHeld.2.2.2.1))).trans (hHeld.2.2.2.1); have HS4_ := (hb.cell (World.block_lt_of_cell? _ _ (hHeld.2.2.2.2.1))).trans (hHeld.2.2.2.2.1); have HS5_ := (hb.cell (World.block_lt_of_cell? _ _ (hHeld.2.2.2.2.2))).trans (hHeld.2.2.2.2.2); refine ⟨_, rfl, ?_⟩; have n0_ := Aside0.mk (Kd.R_below (ra HO_5.out) hb); have n1_ := Aside0.mk (blk_below (g := gb376) (o := .cells #[.string t372, .string t373, .string t374] 33 (0, 0)) bk hb); have n2_ := Aside0.mk (below_step bwS hb); clear HO_5 BK376 HB; have HO_5 := n0_; have BK376 := n1_; have HB := n2_; clear n0_ n1_ n2_
        (try clear hb)
        (try clear hb2)
        (try clear hk)
        (try clear hi)
        refine hK.out _ _ ⟨(blk_cell BK376.out 0).trans rfl, (blk_cell BK376.out 1).trans rfl, (blk_cell BK376.out 2).trans rfl, HS3_, HS4_, HS5_⟩ (fun hHeld => ?_); clear hK K; refine norm_ (a' := ?_) ?_ ?_; rotate_left
        ·show Act.put _ (some 70) _ = _
         simp only [Act.put, List.setIfInBounds_toArray, List.set_cons_zero, List.set_cons_succ, i64_w, i32_w]; rfl
        refine pure_ (i := 12) (N := some 71) (v := ?_) (a' := ?_) (bitsL 14 8191) rfl rfl (any_of HT_.out (by kernel_rfl)) (fun _ _ _ h => h) (Or.inl ⟨by rfl, ?_⟩) ?_ ?_; rotate_left
        ·intro w'; go_simp; with_reducible rfl
        rotate_left
        ·simp only [Act.put, List.setIfInBounds_toArray, List.set_cons_zero, List.set_cons_succ, i64_w, i32_w]; rfl
        refine pure_ (i := 13) (N := some 2) (v := ?_) (a' := ?_) (bitsL 14 16383) rfl rfl (any_of HT_.out (by kernel_rfl)) (fun _ _ _ h => h) (Or.inl ⟨by rfl, ?_⟩) ?_ ?_; rotate_left
        ·intro w'; go_simp; with_reducible rfl
        rotate_left
        ·simp only [Act.put, List.setIfInBounds_toArray, List.set_cons_zero, List.set_cons_succ, i64_w, i32_w]; rfl
        refine done_ (done_of HT_.out (by kernel_rfl)) ?_
        try go_wp2
        go_ret
        exact ⟨ew, bwS⟩
       rw [if_neg c45] at H; have c45b0 := beq_eq_false_iff_ne.mpr c45; have c45b1 := bne_iff_ne.mpr c45; obtain rfl := Option.some.inj H; exact absurd HT.out (by decide)
      rw [if_neg c44] at H; have c44b0 : (t372.toList == t381.toList && ((t373.toList == t382.toList && (t374.toList == t383.toList)))) = false := by simpa using c44
      (try (have c44b1 : decide (t372.toList = t381.toList && ((t373.toList == t382.toList && (t374.toList == t383.toList)))) = false := by simpa using c44))
      (try (have c44b2 : (t372.toList == t381.toList && ((t373.toList == t382.toList && (t374.toList == t383.toList)))) = false := by simpa using c44))
      (try (have c44b3 : ¬ (t372.toList = t381.toList && ((t373.toList == t382.toList && (t374.toList == t383.toList)))) := by simpa using c44))
      clear c44; obtain rfl := Option.some.inj H; exact absurd HT.out (by decide)
     rw [if_neg c42] at H; exact absurd H (by simp)


end Go.Proofs.YtihabmcaplnbcaaDoor.Fn
set_option linter.unusedVariables false
set_option linter.unusedSimpArgs false
namespace Go.Proofs.YtihabmcaplnbcaaDoor.Pl
open Go.RowKit Go.Proofs.YtihabmcaplnbcaaDoorW.PrintWords Go.Proofs.YtihabmcaplnbcaaDoor.Fn

/-! Layer 14: so many addresses. -/
end Go.Proofs.YtihabmcaplnbcaaDoor.Pl
set_option linter.unusedVariables false
set_option linter.unusedSimpArgs false
namespace Go.Proofs.YtihabmcaplnbcaaDoor.Pl
open Go.RowKit Go.Proofs.YtihabmcaplnbcaaDoorW.PrintWords Go.Proofs.YtihabmcaplnbcaaDoor.Fn

/-! Layer 14: what the program's functions compute -/
theorem mbxRead_is (s : ByteArray) (hs : s.size ≤ 50000) : mbx_Read.f s = some ((readL (bs s)).1.map toBox, (readL (bs s)).2) := if_pos hs
def oneL (s : Bytes) : BoxL × Int := if (readL s).2 ≠ 0 then (([], [], []), (readL s).2) else match (readL s).1 with
 | [x] => (x, 0)
 | _ => (([], [], []), 130)
theorem mbxOne_is (s : ByteArray) (hs : s.size ≤ 50000) : mbx_One.f s = some (str (oneL (bs s)).1.1, str (oneL (bs s)).1.2.1, str (oneL (bs s)).1.2.2, (oneL (bs s)).2) := by
 unfold mbx_One.f oneL
 rw [mbxRead_is s hs, Option.bind_some]
 obtain ⟨⟨l, e⟩, h⟩ : ∃ x, readL (bs s) = x := ⟨_, rfl⟩
 rw [h]
 simp only [List.length_map]
 by_cases he : e = 0
 ·subst he
  rw [if_pos rfl]
  match l with
  | [] => rfl
  | [x] => rfl
  | x :: y :: r => rw [if_neg (by simp only [List.length_cons]; omega)]; rfl
 rw [if_neg he]
 simp only [ne_eq, he, not_false_eq_true, if_true]
 rfl
set_option maxRecDepth 100000 in
theorem works14 (k : Nat) (hk : 100 ≤ k) : bulletinlaw14_works.f k = some true := mono_up (fun k => bulletinlaw14_works.mono k) (show bulletinlaw14_works.f 100 = some true by decide +kernel) k hk
end Go.Proofs.YtihabmcaplnbcaaDoor.Pl
set_option linter.unusedVariables false
set_option linter.unusedSimpArgs false
namespace Go.Proofs.YtihabmcaplnbcaaDoor.Pl
open Go.RowKit Go.Proofs.YtihabmcaplnbcaaDoorW.PrintWords Go.Proofs.YtihabmcaplnbcaaDoor.Fn
/-! Layer 14: the document's way: tokens cut at the stops, piece after piece -/
abbrev PcL := List Tok × Bytes
abbrev ResL := List BoxL × Int
def cutA : List Tok → List Tok → List PcL
 | p, [] => [(p, [])]
 | p, t :: r => if stopT t = true then (p, t.2) :: cutA [] r else cutA (p ++ [t]) r
def sgn (l : List Tok) : Bytes := match l with | [] => [] | t :: _ => t.2
def rst (l : List Tok) : List PcL := match l with | [] => [] | _ :: r => cutA [] r
theorem cut_span : ∀ (l p : List Tok), cutA p l = (p ++ l.takeWhile nonT, sgn (l.dropWhile nonT)) :: rst (l.dropWhile nonT)
 | [], p => by simp [cutA, sgn, rst]
 | t :: l, p => by
  rw [cutA, List.takeWhile_cons, List.dropWhile_cons]
  cases h : stopT t with
  | true =>
   have : nonT t = false := by unfold nonT; rw [h]; rfl
   rw [this]; simp [sgn, rst]
  | false =>
   have : nonT t = true := by unfold nonT; rw [h]; rfl
   rw [this, if_neg (by decide), cut_span l (p ++ [t])]
   simp
theorem stop_shape {t : Tok} (h : nonT t = false) : ∃ c, t = (3, [c]) ∧ stopB c = true := by
 obtain ⟨a, b⟩ := t
 unfold nonT stopT at h
 match b with
 | [] => simp at h
 | [c] =>
  simp only [Bool.not_eq_false', Bool.and_eq_true, beq_iff_eq] at h
  obtain ⟨h1, h2⟩ := h
  exact ⟨c, by rw [h1], h2⟩
 | _ :: _ :: _ => simp at h
theorem rest_shape (l : List Tok) : l.dropWhile nonT = [] ∨ ∃ c r, l.dropWhile nonT = (3, [c]) :: r ∧ stopB c = true := by
 induction l with
 | nil => exact .inl rfl
 | cons t l ih =>
  rw [List.dropWhile_cons]
  cases h : nonT t with
  | true => simpa using ih
  | false =>
   obtain ⟨c, rfl, hc⟩ := stop_shape h
   exact .inr ⟨c, l, rfl, hc⟩
theorem word_non {t : Tok} (h : wordT t = true) : nonT t = true := by
 unfold wordT at h
 unfold nonT stopT
 have : (t.1 == 3) = false := by simpa using h
 rw [this]; rfl
theorem plain_span : ∀ (l : List Tok), (l.takeWhile nonT).all wordT = true → l.takeWhile wordT = l.takeWhile nonT ∧ l.dropWhile wordT = l.dropWhile nonT
 | [], _ => ⟨rfl, rfl⟩
 | t :: l, h => by
  rw [List.takeWhile_cons] at h
  rw [List.takeWhile_cons, List.takeWhile_cons, List.dropWhile_cons, List.dropWhile_cons]
  cases hn : nonT t with
  | true =>
   rw [hn] at h
   simp only [if_true, List.all_cons, Bool.and_eq_true] at h
   obtain ⟨i1, i2⟩ := plain_span l h.2
   rw [h.1, i1, i2]; simp
  | false =>
   have : wordT t = false := by
    cases hw : wordT t with
    | true => rw [word_non hw] at hn; cases hn
    | false => rfl
   rw [this]; simp
theorem isT_stop {t : Tok} {c : UInt8} (hc : stopB c = true) (h : isT t [c] = true) : nonT t = false := by
 obtain ⟨a, b⟩ := t
 unfold isT at h
 simp only [Bool.and_eq_true, beq_iff_eq] at h
 obtain ⟨rfl, rfl⟩ := h
 unfold nonT stopT
 simp [hc]
theorem head_stop (c : UInt8) (hc : stopB c = true) : ∀ l : List Tok, headIs (l.dropWhile wordT) [c] = ((l.takeWhile nonT).all wordT && headIs (l.dropWhile nonT) [c])
 | [] => by simp [headIs]
 | t :: l => by
  rw [List.takeWhile_cons, List.dropWhile_cons, List.dropWhile_cons]
  cases hw : wordT t with
  | true =>
   rw [word_non hw]
   simp only [if_true, List.all_cons, hw, Bool.true_and]
   exact head_stop c hc l
  | false =>
   cases hn : nonT t with
   | true =>
    have : isT t [c] = false := by
     cases h : isT t [c] with
     | true => rw [isT_stop hc h] at hn; cases hn
     | false => rfl
    simp [headIs, hw, this]
   | false => simp [headIs]
def plainP (l : List Tok) : Bool := l.all wordT
def endP (nx : List PcL → List BoxL → Bool → ResL) (sg : Bytes) (r : List PcL) (out : List BoxL) (g : Bool) : ResL :=
 if sg = [] ∧ g = false then (out, 0) else if sg = [44] then nx r out g else ([], 130)
def semiP (nx : List PcL → List BoxL → Bool → ResL) (sg : Bytes) (r : List PcL) (out : List BoxL) (g : Bool) : ResL :=
 if sg = [59] ∧ g = true then (match r with | [] => ([], 130) | q :: r' => if q.1 = [] then endP nx q.2 r' out false else ([], 130)) else endP nx sg r out g
def boxP (nm : Bytes) (l : List Tok) (out : List BoxL) (f : List BoxL → ResL) : ResL :=
 if (ofT l).2.2 ≠ 0 then ([], (ofT l).2.2) else if out.length = 100 then ([], 8) else f (out ++ [(nm, bs (ofT l).1, bs (ofT l).2.1)])
def wordsP (l : List Tok) : Bytes := Lib.join (l.map (·.2)) [32]
def refP : Nat → List PcL → List BoxL → Bool → ResL
 | 0, _, _, _ => ([], 130)
 | _ + 1, [], _, _ => ([], 130)
 | n + 1, p :: r, out, g =>
  if p.2 = [58] ∧ plainP p.1 = true ∧ p.1 ≠ [] ∧ g = false then
   (match r with | [] => ([], 130) | q :: r' => if q.1 = [] ∧ q.2 = [59] then semiP (refP n) q.2 r' out true else refP n r out true)
  else if p.2 = [60] ∧ plainP p.1 = true then
   (match r with | [] => ([], 130) | q :: r' => boxP (wordsP p.1) q.1 out fun out' => if q.2 = [62] then (match r' with | [] => ([], 130) | q2 :: r2 => if q2.1 = [] then semiP (refP n) q2.2 r2 out' g else ([], 130)) else ([], 130))
  else boxP [] p.1 out fun out' => semiP (refP n) p.2 r out' g
/-! the program's way, told alike -/
def aft (m : Nat) (x : StL) : ResL :=
 if x.2 ≠ 0 then ([], x.2) else if x.1.1 = [] then (x.1.2, 0) else if headIs x.1.1 [44] = true then readM m x.1.1.tail x.1.2 else ([], 130)
theorem read_aft (m : Nat) (l : List Tok) (bx : List BoxL) : readM (m + 1) l bx = aft m (itemM l bx) := rfl
def contG (k : Nat) (l : List Tok) (bx : List BoxL) : StL :=
 if headIs l [59] = true then groupM k l bx else if headIs l [44] = true ∧ headIs l.tail [59] = false then groupM k l.tail bx else failM 130
def contM (g : Bool) (k m : Nat) (l : List Tok) (bx : List BoxL) : ResL := if g = true then aft m (contG k l bx) else aft m ((l, bx), 0)
theorem contG_cons (k : Nat) (t : Tok) (r : List Tok) (bx : List BoxL) : contG k (t :: r) bx = if headIs (t :: r) [59] = true then groupM k (t :: r) bx else if headIs (t :: r) [44] = true ∧ headIs r [59] = false then groupM k r bx else failM 130 := rfl
theorem group_cont (k : Nat) (l : List Tok) (bx : List BoxL) (h : headIs l [59] = false) : groupM (k + 1) l bx = if (mailboxM l bx).2 ≠ 0 then mailboxM l bx else contG k (mailboxM l bx).1.1 (mailboxM l bx).1.2 := by
 rw [groupM, if_neg (by rw [h]; decide)]
 rfl
theorem aft_fail (m : Nat) (e : Int) (he : e ≠ 0) : aft m (failM e) = ([], e) := by
 unfold aft failM
 rw [if_pos he]
theorem cont_no {l : List Tok} (h : l.takeWhile nonT ≠ []) (g : Bool) (k m : Nat) (bx : List BoxL) : contM g k m l bx = ([], 130) := by
 obtain ⟨t, r, rfl⟩ : ∃ t r, l = t :: r := by
  cases l with
  | nil => exact absurd rfl h
  | cons t r => exact ⟨t, r, rfl⟩
 have hn : nonT t = true := by
  cases hn : nonT t with
  | true => rfl
  | false => rw [List.takeWhile_cons, hn] at h; exact absurd rfl h
 have no : ∀ c, stopB c = true → headIs (t :: r) [c] = false := fun c hc => by
  show isT t [c] = false
  cases hi : isT t [c] with
  | true => rw [isT_stop hc hi] at hn; cases hn
  | false => rfl
 unfold contM contG
 rw [no 59 (by decide), no 44 (by decide)]
 cases g with
 | true => rw [if_pos rfl, if_neg (by decide), if_neg (by simp)]; exact aft_fail _ _ (by decide)
 | false =>
  rw [if_neg (by decide)]
  unfold aft
  rw [if_neg (by simp), if_neg (by simp), no 44 (by decide), if_neg (by decide)]
theorem none_span {l : List Tok} (h : l.takeWhile nonT = []) : l.dropWhile nonT = l := by
 cases l with
 | nil => rfl
 | cons t r =>
  rw [List.takeWhile_cons] at h
  rw [List.dropWhile_cons]
  cases hn : nonT t with
  | true => rw [hn] at h; simp at h
  | false => simp
theorem end_is (nx : List PcL → List BoxL → Bool → ResL) (m : Nat) (l : List Tok) (hl : l.takeWhile nonT = []) (out : List BoxL) (ih : nx (cutA [] l.tail) out false = readM m l.tail out) :
  endP nx (sgn l) (rst l) out false = aft m ((l, out), 0) := by
 match l, hl with
 | [], _ => simp [sgn, endP, aft]
 | t :: r, hl =>
  obtain ⟨c, ht, hc⟩ := stop_shape (t := t) (by
   rw [List.takeWhile_cons] at hl
   cases hn : nonT t with
   | true => rw [hn] at hl; simp at hl
   | false => rfl)
  subst ht
  have e2 : aft m (((3, [c]) :: r, out), 0) = if headIs ((3, [c]) :: r) [44] = true then readM m r out else ([], 130) := by
   unfold aft
   refine (if_neg (by simp)).trans ((if_neg (by simp)).trans rfl)
  rw [e2]
  unfold endP
  refine (if_neg (by rintro ⟨q, _⟩; cases q)).trans ?_
  show (if ([c] : Bytes) = [44] then nx (cutA [] r) out false else ([], 130)) = if headIs ((3, [c]) :: r) [44] = true then readM m r out else ([], 130)
  by_cases h : c = 44
  ·subst h; rw [if_pos rfl]; exact ih.trans (if_pos (show headIs ((3, [44]) :: r) [44] = true from rfl)).symm
  rw [if_neg (by intro q; cases q; exact h rfl), if_neg (by show ¬ (isT (3, [c]) [44] = true); unfold isT; simp [h])]
theorem semi_is (nx : List PcL → List BoxL → Bool → ResL) (g : Bool) (k m : Nat) (l : List Tok) (hl : l.takeWhile nonT = []) (out : List BoxL)
  (hA : nx (cutA [] l.tail) out false = readM m l.tail out) (hA2 : nx (cutA [] l.tail.tail) out false = readM m l.tail.tail out)
  (hB : headIs l.tail [59] = false → nx (cutA [] l.tail) out true = aft m (groupM k l.tail out)) (hB2 : headIs l.tail [59] = true → nx (cutA [] l.tail) out true = ([], 130)) (hk : 1 ≤ k) :
  semiP nx (sgn l) (rst l) out g = contM g k m l out := by
 unfold semiP contM
 cases g with
 | false => rw [if_neg (by rintro ⟨_, q⟩; cases q), if_neg (by decide)]; exact end_is nx m l hl out hA
 | true =>
  rw [if_pos rfl]
  match l, hl with
  | [], _ =>
   rw [if_neg (by rintro ⟨q, _⟩; cases q)]
   unfold contG
   rw [if_neg (by decide), if_neg (by rintro ⟨q, _⟩; cases q), aft_fail _ _ (by decide)]
   unfold endP
   rw [if_neg (by rintro ⟨_, q⟩; cases q), if_neg (by intro q; cases q)]
  | t :: r, hl =>
   obtain ⟨c, ht, hc⟩ := stop_shape (t := t) (by
    rw [List.takeWhile_cons] at hl
    cases hn : nonT t with
    | true => rw [hn] at hl; simp at hl
    | false => rfl)
   subst ht
   have hd : ∀ d, headIs ((3, [c]) :: r : List Tok) [d] = decide (c = d) := fun d => by
    show isT (3, [c]) [d] = _
    unfold isT
    by_cases h : c = d <;> simp [h]
   show (if ([c] : Bytes) = [59] ∧ true = true then (match cutA [] r with | [] => ([], 130) | q :: r' => if q.1 = [] then endP nx q.2 r' out false else ([], 130)) else endP nx [c] (cutA [] r) out true) = _
   rw [contG_cons, hd, hd]
   simp only [List.tail_cons] at hA hA2 hB hB2
   by_cases h59 : c = 59
   ·subst h59
    obtain ⟨k, rfl⟩ : ∃ j, k = j + 1 := ⟨k - 1, by omega⟩
    rw [if_pos (show ([59] : Bytes) = [59] ∧ true = true from ⟨rfl, rfl⟩), if_pos (show decide ((59 : UInt8) = 59) = true by decide), groupM, if_pos (by rw [hd]; decide), cut_span r []]
    simp only [List.nil_append, List.tail_cons]
    by_cases hr : r.takeWhile nonT = []
    ·rw [if_pos hr, none_span hr]
     exact end_is nx m r hr out hA2
    rw [if_neg hr]
    have := cont_no hr false 0 m out
    unfold contM at this
    rw [if_neg (by decide)] at this
    exact this.symm
   rw [if_neg (by rintro ⟨q, _⟩; cases q; exact h59 rfl), if_neg (by simp [h59])]
   unfold endP
   rw [if_neg (by rintro ⟨_, q⟩; cases q)]
   by_cases h44 : c = 44
   ·subst h44
    rw [if_pos rfl]
    by_cases hh : headIs r [59] = true
    ·rw [if_neg (by rintro ⟨_, q⟩; rw [hh] at q; cases q), aft_fail _ _ (by decide)]; exact hB2 hh
    have hh' : headIs r [59] = false := by simpa using hh
    rw [if_pos (show decide ((44 : UInt8) = 44) = true ∧ headIs r [59] = false from ⟨by decide, hh'⟩)]; exact hB hh'
   rw [if_neg (by intro q; cases q; exact h44 rfl)]
   refine Eq.trans ?_ (congrArg (aft m) (if_neg (by rintro ⟨q, _⟩; simp [h44] at q)).symm)
   rw [aft_fail _ _ (by decide)]
theorem cut_front {l : List Tok} (hl : l.takeWhile nonT = []) : cutA [] l = ([], sgn l) :: rst l := by
 rw [cut_span l [], hl, none_span hl]; rfl
theorem ofT_bad : (ofT []).2.2 ≠ 0 := by decide
theorem sgn_head {l : List Tok} (hl : l.takeWhile nonT = []) (c : UInt8) (hc : stopB c = true) : (sgn l = [c]) = (headIs l [c] = true) := by
 match l, hl with
 | [], _ => simp [sgn, headIs]
 | t :: r, hl =>
  obtain ⟨d, ht, hd⟩ := stop_shape (t := t) (by
   rw [List.takeWhile_cons] at hl
   cases hn : nonT t with
   | true => rw [hn] at hl; simp at hl
   | false => rfl)
  subst ht
  show (([d] : Bytes) = [c]) = (isT (3, [d]) [c] = true)
  unfold isT
  simp
theorem span_stop (l : List Tok) : (l.dropWhile nonT).takeWhile nonT = [] := by
 rcases rest_shape l with h | ⟨c, r, h, hc⟩
 ·rw [h]; rfl
 rw [h, List.takeWhile_cons, show nonT (3, [c]) = false by unfold nonT stopT; simp [hc]]; simp
structure Nx (nx : List PcL → List BoxL → Bool → ResL) (N k m : Nat) : Prop where
 a : ∀ l out, l.length < N → nx (cutA [] l) out false = readM m l out
 b : ∀ l out, l.length < N → headIs l [59] = false → nx (cutA [] l) out true = aft m (groupM k l out)
 c : ∀ l out, l.length < N → headIs l [59] = true → nx (cutA [] l) out true = ([], 130)
theorem semi_nx {nx : List PcL → List BoxL → Bool → ResL} {N k m : Nat} (H : Nx nx N k m) (g : Bool) (l : List Tok) (hl : l.takeWhile nonT = []) (out : List BoxL) (hk : 1 ≤ k) (hN : l.length ≤ N) (h1 : 1 ≤ N) :
  semiP nx (sgn l) (rst l) out g = contM g k m l out := by
 have e1 : l.tail.length < N := by rw [List.length_tail]; omega
 have e2 : l.tail.tail.length < N := by rw [List.length_tail, List.length_tail]; omega
 exact semi_is nx g k m l hl out (H.a _ _ e1) (H.a _ _ e2) (H.b _ _ e1) (H.c _ _ e1) hk
theorem mailbox_is {nx : List PcL → List BoxL → Bool → ResL} {k m : Nat} (l : List Tok) (H : Nx nx l.length k m) (g : Bool) (out : List BoxL) (hk : l.length ≤ k) :
  (if sgn (l.dropWhile nonT) = [60] ∧ plainP (l.takeWhile nonT) = true then
   (match rst (l.dropWhile nonT) with | [] => ([], 130) | q :: r' => boxP (wordsP (l.takeWhile nonT)) q.1 out fun out' => if q.2 = [62] then (match r' with | [] => ([], 130) | q2 :: r2 => if q2.1 = [] then semiP nx q2.2 r2 out' g else ([], 130)) else ([], 130))
  else boxP [] (l.takeWhile nonT) out fun out' => semiP nx (sgn (l.dropWhile nonT)) (rst (l.dropWhile nonT)) out' g)
  = if (mailboxM l out).2 ≠ 0 then ([], (mailboxM l out).2) else contM g k m (mailboxM l out).1.1 (mailboxM l out).1.2 := by
 have hst := span_stop l
 have hhd := sgn_head hst 60 (by decide)
 have hle := (List.dropWhile_suffix nonT (l := l)).length_le
 unfold mailboxM
 rw [head_stop 60 (by decide) l]
 by_cases hc : sgn (l.dropWhile nonT) = [60] ∧ plainP (l.takeWhile nonT) = true
 ·rw [if_pos hc]
  have h60 : headIs (l.dropWhile nonT) [60] = true := hhd ▸ hc.1
  have hpl : (l.takeWhile nonT).all wordT = true := hc.2
  rw [h60, hpl]
  obtain ⟨s1, s2⟩ := plain_span l hpl
  obtain ⟨t, r, hr, ht⟩ := headIs_ne h60
  have hlr : r.length < l.length := by rw [hr, List.length_cons] at hle; omega
  have hnm : nameL l = wordsP (l.takeWhile nonT) := by unfold nameL wordsP; rw [s1]
  rw [s2, hr, hnm]
  refine Eq.trans ?_ (by rw [if_pos (show (true && true) = true from rfl), List.tail_cons])
  show (match cutA [] r with | [] => ([], 130) | q :: r' => boxP (wordsP (l.takeWhile nonT)) q.1 out fun out' => if q.2 = [62] then (match r' with | [] => ([], 130) | q2 :: r2 => if q2.1 = [] then semiP nx q2.2 r2 out' g else ([], 130)) else ([], 130)) = _
  rw [cut_span r []]
  simp only [List.nil_append]
  unfold boxP addressM angleM
  by_cases g1 : (ofT (r.takeWhile nonT)).2.2 ≠ 0
  ·rw [if_pos g1, if_pos g1]; unfold failM; simp [g1]
  rw [if_neg g1, if_neg g1]
  by_cases g2 : out.length = 100
  ·rw [if_pos g2, if_pos g2]; unfold failM; simp
  rw [if_neg g2, if_neg g2]
  simp only [ne_eq, not_true_eq_false, if_false]
  have hle2 := (List.dropWhile_suffix nonT (l := r)).length_le
  have h62 := sgn_head (span_stop r) 62 (by decide)
  by_cases g3 : headIs (r.dropWhile nonT) [62] = true
  ·rw [if_pos (h62 ▸ g3), if_pos g3]
   obtain ⟨t2, r2, hr2, ht2⟩ := headIs_ne g3
   have hl2 : r2.length < r.length := by rw [hr2, List.length_cons] at hle2; omega
   rw [hr2]
   simp only [List.tail_cons, not_true_eq_false, if_false]
   show (match cutA [] r2 with | [] => ([], 130) | q2 :: r2 => if q2.1 = [] then semiP nx q2.2 r2 _ g else ([], 130)) = _
   rw [cut_span r2 []]
   simp only [List.nil_append]
   by_cases g4 : r2.takeWhile nonT = []
   ·rw [if_pos g4, none_span g4]
    exact semi_nx H g r2 g4 _ (by omega) (by omega) (by omega)
   rw [if_neg g4]; exact (cont_no g4 g k m _).symm
  rw [if_neg (by rw [h62]; exact g3), if_neg g3]
  unfold failM; simp
 rw [if_neg hc]
 have hn : ((l.takeWhile nonT).all wordT && headIs (l.dropWhile nonT) [60]) = false := by
  cases h : ((l.takeWhile nonT).all wordT && headIs (l.dropWhile nonT) [60]) with
  | false => rfl
  | true =>
   rw [Bool.and_eq_true] at h
   exact absurd ⟨hhd ▸ h.2, h.1⟩ hc
 rw [hn]
 refine Eq.trans ?_ (by rw [if_neg (show ¬ (false = true) by decide)])
 unfold boxP addressM
 by_cases g1 : (ofT (l.takeWhile nonT)).2.2 ≠ 0
 ·rw [if_pos g1, if_pos g1]; unfold failM; simp [g1]
 rw [if_neg g1, if_neg g1]
 have hpos : 1 ≤ l.length := by
  cases l with
  | nil => exact absurd ofT_bad g1
  | cons t r => simp
 by_cases g2 : out.length = 100
 ·rw [if_pos g2, if_pos g2]; unfold failM; simp
 rw [if_neg g2, if_neg g2]
 simp only [ne_eq, not_true_eq_false, if_false]
 exact semi_nx H g (l.dropWhile nonT) hst _ (by omega) hle hpos
theorem refP_cons (n : Nat) (p : PcL) (r : List PcL) (out : List BoxL) (g : Bool) : refP (n + 1) (p :: r) out g =
  if p.2 = [58] ∧ plainP p.1 = true ∧ p.1 ≠ [] ∧ g = false then
   (match r with | [] => ([], 130) | q :: r' => if q.1 = [] ∧ q.2 = [59] then semiP (refP n) q.2 r' out true else refP n r out true)
  else if p.2 = [60] ∧ plainP p.1 = true then
   (match r with | [] => ([], 130) | q :: r' => boxP (wordsP p.1) q.1 out fun out' => if q.2 = [62] then (match r' with | [] => ([], 130) | q2 :: r2 => if q2.1 = [] then semiP (refP n) q2.2 r2 out' g else ([], 130)) else ([], 130))
  else boxP [] p.1 out fun out' => semiP (refP n) p.2 r out' g := rfl
theorem aft_err (m : Nat) (x : StL) (h : x.2 ≠ 0) : aft m x = ([], x.2) := by unfold aft; rw [if_pos h]
theorem ref_is : ∀ (N : Nat) (l : List Tok), l.length ≤ N → ∀ (n m k : Nat), l.length < n → l.length < m → l.length < k → ∀ out,
  refP n (cutA [] l) out false = readM m l out ∧ (headIs l [59] = false → refP n (cutA [] l) out true = aft m (groupM k l out)) ∧ (headIs l [59] = true → refP n (cutA [] l) out true = ([], 130))
 | N, l, hN, n, m, k, hn, hm, hk, out => by
  obtain ⟨n, rfl⟩ : ∃ j, n = j + 1 := ⟨n - 1, by omega⟩
  obtain ⟨k, rfl⟩ : ∃ j, k = j + 1 := ⟨k - 1, by omega⟩
  have HN : ∀ Q m k, Q ≤ l.length → Q ≤ m → Q ≤ k → Nx (refP n) Q k m := fun Q m k hQ hm hk => by
   match N, hN with
   | 0, hN => exact ⟨fun _ _ h => absurd h (by omega), fun _ _ h => absurd h (by omega), fun _ _ h => absurd h (by omega)⟩
   | N + 1, hN => exact ⟨fun x o h => (ref_is N x (by omega) n m k (by omega) (by omega) (by omega) o).1, fun x o h => (ref_is N x (by omega) n m k (by omega) (by omega) (by omega) o).2.1, fun x o h => (ref_is N x (by omega) n m k (by omega) (by omega) (by omega) o).2.2⟩
  have hst := span_stop l
  have hle := (List.dropWhile_suffix nonT (l := l)).length_le
  have e0 := cut_span l []
  rw [List.nil_append] at e0
  refine ⟨?_, fun h59 => ?_, fun h59 => ?_⟩
  ·obtain ⟨m, rfl⟩ : ∃ j, m = j + 1 := ⟨m - 1, by omega⟩
   rw [e0, refP_cons, read_aft]
   unfold itemM
   rw [head_stop 58 (by decide) l]
   have hhd := sgn_head hst 58 (by decide)
   by_cases hc : sgn (l.dropWhile nonT) = [58] ∧ plainP (l.takeWhile nonT) = true ∧ l.takeWhile nonT ≠ [] ∧ false = false
   ·obtain ⟨c1, c2, c3, _⟩ := hc
    have h58 : headIs (l.dropWhile nonT) [58] = true := hhd ▸ c1
    have hpl : (l.takeWhile nonT).all wordT = true := c2
    obtain ⟨s1, s2⟩ := plain_span l hpl
    obtain ⟨t, r, hr, ht⟩ := headIs_ne h58
    have hlr : r.length < l.length := by rw [hr, List.length_cons] at hle; omega
    refine (if_pos ⟨c1, c2, c3, rfl⟩).trans ?_
    rw [s1, s2, if_pos (show l.takeWhile nonT ≠ [] ∧ ((l.takeWhile nonT).all wordT && headIs (l.dropWhile nonT) [58]) = true from ⟨c3, by rw [hpl, h58]; rfl⟩), hr]
    show (match cutA [] r with | [] => ([], 130) | q :: r' => if q.1 = [] ∧ q.2 = [59] then semiP (refP n) q.2 r' out true else refP n (cutA [] r) out true) = aft m (groupM (r.length + 1) r out)
    by_cases h59 : headIs r [59] = true
    ·obtain ⟨t2, r2, hr2, ht2⟩ := headIs_ne h59
     have hrn : r.takeWhile nonT = [] := by rw [hr2, List.takeWhile_cons, isT_stop (by decide) ht2]; simp
     have hr1 : 1 ≤ r.length := by rw [hr2]; simp
     rw [cut_front hrn]
     refine (if_pos ⟨rfl, (sgn_head hrn 59 (by decide)).symm ▸ h59⟩).trans ?_
     have := semi_nx (HN r.length m (r.length + 1) (by omega) (by omega) (by omega)) true r hrn out (by omega) (Nat.le_refl _) hr1
     rw [show semiP (refP n) (([], sgn r) : PcL).2 (rst r) out true = semiP (refP n) (sgn r) (rst r) out true from rfl, this]
     unfold contM contG
     rw [if_pos rfl, if_pos h59]
    have hb := (HN (r.length + 1) m (r.length + 1) (by omega) (by omega) (Nat.le_refl _)).b r out (by omega) (by simpa using h59)
    rw [← hb]
    have e1 := cut_span r []
    rw [List.nil_append] at e1
    have : ∀ X : ResL, (match cutA [] r with | [] => ([], 130) | q :: r' => if q.1 = [] ∧ q.2 = [59] then semiP (refP n) q.2 r' out true else X) = X := fun X => by
     rw [e1]
     refine if_neg ?_
     rintro ⟨q1, q2⟩
     have q1' : r.takeWhile nonT = [] := q1
     have q2' : sgn (r.dropWhile nonT) = [59] := q2
     rw [none_span q1', sgn_head q1' 59 (by decide)] at q2'
     exact h59 q2'
    exact this _
   refine (if_neg hc).trans ?_
   have hn' : ¬ (l.takeWhile wordT ≠ [] ∧ ((l.takeWhile nonT).all wordT && headIs (l.dropWhile nonT) [58]) = true) := by
    rintro ⟨q1, q2⟩
    rw [Bool.and_eq_true] at q2
    obtain ⟨s1, s2⟩ := plain_span l q2.1
    exact hc ⟨hhd ▸ q2.2, q2.1, s1 ▸ q1, rfl⟩
   rw [if_neg hn']
   refine (mailbox_is l (HN l.length m l.length (Nat.le_refl _) (by omega) (Nat.le_refl _)) false out (Nat.le_refl _)).trans ?_
   by_cases he : (mailboxM l out).2 ≠ 0
   ·rw [if_pos he, aft_err m _ he]
   rw [if_neg he]
   unfold contM
   rw [if_neg (by decide)]
   have he' : (mailboxM l out).2 = 0 := by simpa using he
   congr 1
   rw [← he']
  ·rw [e0, refP_cons, group_cont k l out h59]
   refine (if_neg (by rintro ⟨_, _, _, q⟩; cases q)).trans ?_
   refine (mailbox_is l (HN l.length m k (Nat.le_refl _) (by omega) (by omega)) true out (by omega)).trans ?_
   by_cases he : (mailboxM l out).2 ≠ 0
   ·rw [if_pos he, if_pos he, aft_err m _ he]
   rw [if_neg he, if_neg he]
   unfold contM
   rw [if_pos rfl]
  obtain ⟨t2, r2, hr2, ht2⟩ := headIs_ne h59
  have hln : l.takeWhile nonT = [] := by rw [hr2, List.takeWhile_cons, isT_stop (by decide) ht2]; simp
  rw [e0, refP_cons, hln, none_span hln]
  refine (if_neg (by rintro ⟨_, _, _, q⟩; cases q)).trans ?_
  refine (if_neg (by
   rintro ⟨q, _⟩
   have q' : sgn l = [60] := q
   have q2 : sgn l = [59] := (sgn_head hln 59 (by decide)).symm ▸ h59
   rw [q'] at q2; cases q2)).trans ?_
  unfold boxP
  refine (if_pos ofT_bad).trans ?_
  rfl
theorem refP_read (l : List Tok) (n : Nat) (hn : l.length < n) : refP n (cutA [] l) [] false = readT l :=
 (ref_is l.length l (Nat.le_refl _) n (l.length + 1) (l.length + 1) hn (by omega) (by omega) []).1
end Go.Proofs.YtihabmcaplnbcaaDoor.Pl
set_option linter.unusedVariables false
namespace Go.Proofs.YtihabmcaplnbcaaDoor.Pl
open Go.RowKit Go.Proofs.YtihabmcaplnbcaaDoorW.PrintWords Go.Proofs.YtihabmcaplnbcaaDoor.Fn

/-! Layer 13, the document's: the address that tokens are. -/
def chk (p : Tok → Bool) : Nat → List Tok → Bool
 | _, [] => true
 | m, t :: r => (if m % 2 = 1 then isT t [46] else p t) && chk p (m + 1) r
theorem chk_two (p : Tok → Bool) : ∀ (l : List Tok) (m : Nat), chk p (m + 2) l = chk p m l
 | [], m => rfl
 | t :: r, m => by
  rw [chk, chk, chk_two p r (m + 1)]
  have : (m + 2) % 2 = m % 2 := by omega
  rw [this]
theorem altOk_chk (p : Tok → Bool) : ∀ (l : List Tok), altOk p l = (chk p 0 l && decide (l.length % 2 = 1))
 | [] => rfl
 | [x] => by simp [altOk, chk]
 | x :: d :: r => by
  have e : chk p 0 (x :: d :: r) = (p x && (isT d [46] && chk p 0 r)) := by
   rw [chk, chk, chk_two]
   simp
  have e2 : decide ((x :: d :: r).length % 2 = 1) = decide (r.length % 2 = 1) := by
   congr 1
   simp only [List.length_cons]
   exact propext ⟨fun h => by omega, fun h => by omega⟩
  rw [altOk, altOk_chk p r, e, e2]
  cases p x <;> cases isT d [46] <;> simp
theorem rd148 {l : List Tok} {i : Nat} {t : Tok} {r : List Tok} (h : l.drop i = t :: r) : rd_T113 (l.map tok148) (i : Int) = tok148 t := by
 have h1 : l[i]? = some t := by
  have := congrArg List.head? h
  rw [List.head?_drop] at this
  exact this
 unfold rd_T113
 rw [List.getD_eq_getElem?_getD, List.getElem?_map]
 simp [h1]
theorem tmod2 (m : Nat) : Int.tmod (m : Int) 2 = ((m % 2 : Nat) : Int) := by
 rw [Int.tmod_eq_emod_of_nonneg (by omega)]
 omega
theorem toList148 (t : Tok) (c : UInt8) : ((tok148 t).f1.toList = [c]) = (t.2 = [c]) := by
 show ((str t.2).toList = [c]) = _
 rw [toList_str]
theorem refOf_found (l : List Tok) (hl : l.length ≤ 100000) (a : Nat) (K : Nat) : ∀ (r : List Tok) (i : Nat), l.drop i = r → i ≤ l.length →
  bulletinref13_Of.l0 (r.length + 1 + K) (l.map tok148) (a : Int) (i : Int) = bulletinref13_Of.l1 K (l.map tok148) (a : Int) 0 (str []) (str [])
 | [], i, hd, hi => by
  have : l.length ≤ i := by have := congrArg List.length hd; simp at this; omega
  rw [List.length_nil, show 0 + 1 + K = K + 1 by omega, bulletinref13_Of.l0, if_neg (by rw [List.length_map]; omega), if_neg (by omega)]
  rfl
 | t :: r, i, hd, hi => by
  obtain ⟨h1, h2⟩ := dropS_lt hd
  have ih := refOf_found l hl a K r (i + 1) h2 (by omega)
  rw [List.length_cons, show r.length + 1 + 1 + K = (r.length + 1 + K) + 1 by omega, bulletinref13_Of.l0, if_pos (by rw [List.length_map]; omega), if_pos (by omega), if_neg (c := (a : Int) < 0) (by omega), wrap_succ i (by omega), ih]
  repeat' split
  all_goals rfl
theorem refOf_seek (l : List Tok) (hl : l.length ≤ 100000) (K : Nat) : ∀ (r : List Tok) (i : Nat), l.drop i = r → i ≤ l.length →
  bulletinref13_Of.l0 (r.length + 1 + K) (l.map tok148) (-1) (i : Int) = match atSplit r with
   | none => some noAddr
   | some (A, B) => bulletinref13_Of.l1 K (l.map tok148) ((i + A.length : Nat) : Int) 0 (str []) (str [])
 | [], i, hd, hi => by
  have : l.length ≤ i := by have := congrArg List.length hd; simp at this; omega
  rw [List.length_nil, show 0 + 1 + K = K + 1 by omega, bulletinref13_Of.l0, if_neg (by rw [List.length_map]; omega), if_pos (by decide)]
  rfl
 | t :: r, i, hd, hi => by
  obtain ⟨h1, h2⟩ := dropS_lt hd
  have ih := refOf_seek l hl K r (i + 1) h2 (by omega)
  have fo := refOf_found l hl i K r (i + 1) h2 (by omega)
  rw [List.length_cons, show r.length + 1 + 1 + K = (r.length + 1 + K) + 1 by omega, bulletinref13_Of.l0, if_pos (by rw [List.length_map]; omega), if_pos (by omega), if_pos (c := (-1 : Int) < 0) (by decide), wrap_succ i (by omega), ih, fo, rd148 hd, atSplit]
  have e3 : ((tok148 t).f0 = 3) = (t.1 = 3) := rfl
  have e64 := toList148 t 64
  by_cases c3 : t.1 = 3
  ·rw [if_pos (by rw [e3]; exact c3)]
   by_cases c64 : t.2 = [64]
   ·have hT : isT t [64] = true := by unfold isT; simp [c3, c64]
    rw [if_pos (by rw [e64]; exact c64), if_pos hT]
    simp
   have hT : isT t [64] = false := by unfold isT; simp [c64]
   rw [if_neg (by rw [e64]; exact c64), hT, if_neg (by decide)]
   cases atSplit r with
   | none => rfl
   | some x => obtain ⟨A, B⟩ := x; simp only [Option.map_some, List.length_cons]; congr 2; omega
  have hT : isT t [64] = false := by unfold isT; simp [c3]
  rw [if_neg (by rw [e3]; exact c3), hT, if_neg (by decide)]
  cases atSplit r with
  | none => rfl
  | some x => obtain ⟨A, B⟩ := x; simp only [Option.map_some, List.length_cons]; congr 2; omega
theorem refOf_tok (L : List S113) (k : Nat) (a i : Int) (m : Nat) (ne : ¬ i = a) (x y : ByteArray) (t : Tok) :
  bulletinref13_Of.j2 (k + 3) L a i (m : Int) x y (tok148 t).f0 (tok148 t).f1 = if (if m % 2 = 1 then isT t [46] else (if a < i then atomT t else wordT t)) = true then bulletinref13_Of.j4 (k + 1) L a i false x y (tok148 t).f0 (tok148 t).f1 else some noAddr := by
 have e3 : ((tok148 t).f0 = 3) = (t.1 = 3) := rfl
 have e0 : (tok148 t).f0 = t.1 := rfl
 have e46 : ((tok148 t).f1.toList != ([46] : List UInt8)) = !(t.2 == [46]) := by
  show ((str t.2).toList != [46]) = _
  rw [toList_str]
  rfl
 rw [bulletinref13_Of.j2, if_neg ne, tmod2]
 by_cases hm : m % 2 = 1
 ·rw [if_pos (by omega), if_pos hm]
  have j3f : bulletinref13_Of.j3 (k + 2) L a i (m : Int) false x y (tok148 t).f0 (tok148 t).f1 = bulletinref13_Of.j4 (k + 1) L a i false x y (tok148 t).f0 (tok148 t).f1 := by
   rw [bulletinref13_Of.j3, if_neg (by decide), if_neg ne, tmod2, if_neg (by omega)]
  have j3t : bulletinref13_Of.j3 (k + 2) L a i (m : Int) true x y (tok148 t).f0 (tok148 t).f1 = some noAddr := by
   rw [bulletinref13_Of.j3, if_pos rfl]
   rfl
  by_cases c3 : t.1 = 3
  ·rw [if_pos (by rw [e3]; exact c3), e46]
   by_cases c46 : t.2 = [46]
   ·have hT : isT t [46] = true := by unfold isT; simp [c3, c46]
    rw [show (!(t.2 == [46])) = false by simp [c46], j3f, if_pos hT]
   have hT : isT t [46] = false := by unfold isT; simp [c46]
   rw [show (!(t.2 == [46])) = true by simp [c46], j3t, hT, if_neg (by decide)]
  have hT : isT t [46] = false := by unfold isT; simp [c3]
  rw [if_neg (by rw [e3]; exact c3), j3t, hT, if_neg (by decide)]
 rw [if_neg (c := ((m % 2 : Nat) : Int) = 1) (by omega), if_neg hm, bulletinref13_Of.j3, if_neg (by decide), if_neg ne, tmod2, if_pos (by omega)]
 have j4t : bulletinref13_Of.j4 (k + 1) L a i true x y (tok148 t).f0 (tok148 t).f1 = some noAddr := by
  rw [bulletinref13_Of.j4, if_pos rfl]
  rfl
 by_cases c3 : t.1 = 3
 ·rw [if_pos (by rw [e3]; exact c3), j4t, if_neg]
  unfold atomT wordT
  split <;> simp [c3]
 rw [if_neg (by rw [e3]; exact c3)]
 by_cases ha : a < i
 ·rw [if_pos ha, if_pos ha, show ((tok148 t).f0 != 1) = (t.1 != 1) from rfl]
  unfold atomT
  by_cases c1 : t.1 = 1
  ·rw [show (t.1 != 1) = false by simp [c1], if_pos (by simp [c1])]
  rw [show (t.1 != 1) = true by simp [c1], j4t, if_neg (by simp [c1])]
 rw [if_neg ha, if_neg ha, if_pos (by unfold wordT; simp [c3])]
theorem refOf_end (a : Nat) (n : Nat) (hn : n ≤ 100000) (ha : a < n) (x y : Bytes) (hx : x.length ≤ 100000) (hy : y.length ≤ 100000) (K : Nat) (hK : 700000 ≤ K) (Lk : List S113) (hL : Lk.length = n) :
  (if (Int.tmod (a : Int) 2) = 0 then (bulletinref13_Of.j5 (K + 1) true (str x) (str y)) else (bulletinref13_Of.j5 (K + 1) ((Int.tmod (wrap64 ((wrap64 ((Lk.length : Int) - (a : Int))) - 1)) 2) == 0) (str x) (str y))) =
   some (if a % 2 = 1 ∧ (n - a - 1) % 2 = 1 then finish x y else noAddr) := by
 have e : wrap64 ((wrap64 ((Lk.length : Int) - (a : Int))) - 1) = ((n - a - 1 : Nat) : Int) := by
  rw [hL, wrap_id (x := (n : Int) - (a : Int)) (by omega) (by omega), wrap_id (by omega) (by omega)]
  omega
 have bad : bulletinref13_Of.j5 (K + 1) true (str x) (str y) = some noAddr := by
  rw [bulletinref13_Of.j5, if_pos rfl]
  rfl
 rw [e, tmod2, tmod2]
 by_cases h1 : a % 2 = 1
 ·rw [if_neg (by omega)]
  by_cases h2 : (n - a - 1) % 2 = 1
  ·rw [show (((((n - a - 1) % 2 : Nat)) : Int) == 0) = false by rw [beq_eq_false_iff_ne]; omega, bulletinref13_Of.j5, if_neg (by decide), reffold_is _ (by rw [str_size]; omega) K (by rw [str_size]; omega), bs_str, Option.bind_some, refWhy_is _ _ (by rw [str_size]; omega) (by rw [str_size, fold_length]; omega) K (by rw [str_size, str_size, fold_length]; omega), Option.bind_some, if_pos (c := a % 2 = 1 ∧ (n - a - 1) % 2 = 1) ⟨h1, h2⟩]
   unfold finish
   by_cases hw : why (str x) (str (fold y)) = 0
   ·rw [if_pos hw, if_pos hw]
   rw [if_neg hw, if_neg hw]
   rfl
  rw [show (((((n - a - 1) % 2 : Nat)) : Int) == 0) = true by rw [beq_iff_eq]; omega, bad, if_neg (fun h => h2 h.2)]
 rw [if_pos (by omega), bad, if_neg (fun h => h1 h.1)]
theorem refOf_B (l A B : List Tok) (t0 : Tok) (hl : l = A ++ t0 :: B) (hn : l.length ≤ 100000) (hc : (cat l).length ≤ 50000) (K : Nat) (hK : 700000 ≤ K) (x : Bytes) (hx : x.length ≤ 50000) :
  ∀ (r : List Tok) (m : Nat) (y : Bytes), B.drop m = r → m ≤ B.length → y.length + (cat r).length ≤ 50000 →
  bulletinref13_Of.l1 (4 * r.length + 2 + K) (l.map tok148) (A.length : Int) ((A.length + 1 + m : Nat) : Int) (str x) (str y) = some (if chk atomT m r = true ∧ A.length % 2 = 1 ∧ B.length % 2 = 1 then finish x (y ++ cat r) else noAddr)
 | [], m, y, hd, hm, hy => by
  have hm2 : B.length ≤ m := by have := congrArg List.length hd; simp at this; omega
  have hll : l.length = A.length + (B.length + 1) := by rw [hl]; simp
  rw [List.length_nil, show 4 * 0 + 2 + K = (K + 1) + 1 by omega, bulletinref13_Of.l1, if_neg (by rw [List.length_map]; omega), refOf_end A.length l.length hn (by omega) x y (by omega) (by simp [cat] at hy; omega) K hK _ (by rw [List.length_map])]
  rw [show l.length - A.length - 1 = B.length by omega]
  simp [chk, cat]
 | t :: r, m, y, hd, hm, hy => by
  obtain ⟨h1, h2⟩ := dropS_lt hd
  have hll : l.length = A.length + (B.length + 1) := by rw [hl]; simp
  have hdl : l.drop (A.length + 1 + m) = t :: r := by
   rw [hl, List.drop_append, List.drop_of_length_le (by omega), List.nil_append, show A.length + 1 + m - A.length = m + 1 by omega]
   exact hd
  have hcr : (cat (t :: r)).length = t.2.length + (cat r).length := by simp [cat]
  have ew : wrap64 ((wrap64 (((A.length + 1 + m : Nat) : Int) - (A.length : Int))) - 1) = ((m : Nat) : Int) := by
   rw [wrap_id (x := ((A.length + 1 + m : Nat) : Int) - (A.length : Int)) (by omega) (by omega), wrap_id (by omega) (by omega)]
   omega
  rw [List.length_cons, show 4 * (r.length + 1) + 2 + K = ((4 * r.length + 2 + K) + 3) + 1 by omega, bulletinref13_Of.l1, if_pos (by rw [List.length_map]; omega), if_pos (by omega), if_pos (by omega), rd148 hdl, ew, refOf_tok _ _ _ _ m (by omega), chk]
  rw [if_pos (c := (A.length : Int) < ((A.length + 1 + m : Nat) : Int)) (by omega)]
  cases hok : (if m % 2 = 1 then isT t [46] else atomT t) with
  | false =>
   rw [if_neg (by decide), if_neg]
   rintro ⟨h, _⟩
   simp at h
  | true =>
   rw [if_pos rfl, bulletinref13_Of.j4, if_neg (by decide), if_neg (c := ((A.length + 1 + m : Nat) : Int) < (A.length : Int)) (by omega), if_pos (by omega), show (tok148 t).f1 = str t.2 from rfl, str_app, if_pos (by rw [str_size, str_size]; omega), wrap_succ _ (by omega)]
   rw [show A.length + 1 + m + 1 = A.length + 1 + (m + 1) by omega, refOf_B l A B t0 hl hn hc K hK x hx r (m + 1) (y ++ t.2) h2 (by omega) (by rw [List.length_append]; omega)]
   simp [cat]
theorem refOf_A (l A B : List Tok) (t0 : Tok) (hl : l = A ++ t0 :: B) (hn : l.length ≤ 100000) (hc : (cat l).length ≤ 50000) (K : Nat) (hK : 700000 ≤ K) :
  ∀ (r : List Tok) (i : Nat) (x : Bytes), A.drop i = r → i ≤ A.length → x.length + (cat r).length ≤ 50000 →
  bulletinref13_Of.l1 (4 * (r.length + 1 + B.length) + 2 + K) (l.map tok148) (A.length : Int) (i : Int) (str x) (str []) = some (if chk wordT i r = true ∧ chk atomT 0 B = true ∧ A.length % 2 = 1 ∧ B.length % 2 = 1 then finish (x ++ cat r) (cat B) else noAddr)
 | [], i, x, hd, hi, hx => by
  have hi2 : A.length = i := by have := congrArg List.length hd; simp at this; omega
  have hll : l.length = A.length + (B.length + 1) := by rw [hl]; simp
  have hdl : l.drop i = t0 :: B := by
   rw [hl, ← hi2, List.drop_append, List.drop_of_length_le (Nat.le_refl _), List.nil_append, Nat.sub_self, List.drop_zero]
  have hcl : (cat l).length = (cat A).length + (t0.2.length + (cat B).length) := by rw [hl]; simp [cat]
  rw [List.length_nil, show 4 * (0 + 1 + B.length) + 2 + K = ((4 * B.length + 2 + K) + 3) + 1 by omega, bulletinref13_Of.l1, if_pos (by rw [List.length_map]; omega), if_pos (by omega), if_neg (by omega), rd148 hdl, bulletinref13_Of.j2, if_pos (by omega), bulletinref13_Of.j3, if_neg (by decide), if_pos (by omega), bulletinref13_Of.j4, if_neg (by decide), if_neg (by omega), if_neg (by omega), wrap_succ i (by omega)]
  have hB := refOf_B l A B t0 hl hn hc K hK x (by omega) B 0 [] rfl (by omega) (by simp; omega)
  rw [show A.length + 1 + 0 = i + 1 by omega] at hB
  rw [hB]
  simp [chk, cat]
 | t :: r, i, x, hd, hi, hx => by
  obtain ⟨h1, h2⟩ := dropS_lt hd
  have hll : l.length = A.length + (B.length + 1) := by rw [hl]; simp
  have hdl : l.drop i = t :: (r ++ t0 :: B) := by
   rw [hl, List.drop_append_of_le_length (by omega), hd]
   rfl
  have hcr : (cat (t :: r)).length = t.2.length + (cat r).length := by simp [cat]
  rw [List.length_cons, show 4 * (r.length + 1 + 1 + B.length) + 2 + K = ((4 * (r.length + 1 + B.length) + 2 + K) + 3) + 1 by omega, bulletinref13_Of.l1, if_pos (by rw [List.length_map]; omega), if_pos (by omega), if_neg (by omega), rd148 hdl, refOf_tok _ _ _ _ i (by omega), chk]
  rw [if_neg (c := (A.length : Int) < (i : Int)) (by omega)]
  cases hok : (if i % 2 = 1 then isT t [46] else wordT t) with
  | false =>
   rw [if_neg (by decide), if_neg]
   rintro ⟨h, _⟩
   simp at h
  | true =>
   rw [if_pos rfl, bulletinref13_Of.j4, if_neg (by decide), if_pos (by omega), show (tok148 t).f1 = str t.2 from rfl, str_app, if_pos (by rw [str_size, str_size]; omega), if_neg (by omega), wrap_succ i (by omega)]
   rw [refOf_A l A B t0 hl hn hc K hK r (i + 1) (x ++ t.2) h2 (by omega) (by rw [List.length_append]; omega)]
   simp [cat]
theorem refOf_is (l : List Tok) (hn : l.length ≤ 100000) (hc : (cat l).length ≤ 50000) (k : Nat) (hk : 5 * l.length + 700100 ≤ k) : bulletinref13_Of.f k (l.map tok148) = some (ofT l) := by
 obtain ⟨K0, rfl⟩ : ∃ j, k = l.length + 1 + j := ⟨k - (l.length + 1), by omega⟩
 have hs := refOf_seek l hn K0 l 0 rfl (by omega)
 unfold bulletinref13_Of.f ofT
 rw [show (0 : Int) = ((0 : Nat) : Int) from rfl, hs]
 cases hsp : atSplit l with
 | none => rfl
 | some y =>
  obtain ⟨A, B⟩ := y
  obtain ⟨t0, h1, h2, h3⟩ := atSplit_some hsp
  have hll : l.length = A.length + (B.length + 1) := by rw [h2]; simp
  have hcl : (cat l).length = (cat A).length + (t0.2.length + (cat B).length) := by rw [h2]; simp [cat]
  simp only []
  obtain ⟨K, rfl⟩ : ∃ j, K0 = 4 * (A.length + 1 + B.length) + 2 + j := ⟨K0 - (4 * (A.length + 1 + B.length) + 2), by omega⟩
  have hA := refOf_A l A B t0 h2 hn hc K (by omega) A 0 [] rfl (by omega) (by simp; omega)
  rw [Nat.zero_add]
  rw [show ((0 : Nat) : Int) = 0 from rfl] at hA
  rw [hA, altOk_chk, altOk_chk]
  simp only [List.nil_append, Bool.and_eq_true, decide_eq_true_eq]
  congr 1
  by_cases q1 : chk wordT 0 A = true <;> by_cases q2 : chk atomT 0 B = true <;> by_cases q3 : A.length % 2 = 1 <;> by_cases q4 : B.length % 2 = 1 <;> simp [q1, q2, q3, q4]
end Go.Proofs.YtihabmcaplnbcaaDoor.Pl
set_option linter.unusedVariables false
set_option linter.unusedSimpArgs false
namespace Go.Proofs.YtihabmcaplnbcaaDoor.Pl
open Go.RowKit Go.Proofs.YtihabmcaplnbcaaDoorW.PrintWords Go.Proofs.YtihabmcaplnbcaaDoor.Fn
/-! Layer 14: the document's boxes -/
def okS (t : Tok) : Prop := t.1 = 3 → ∃ c, t.2 = [c] ∧ signB c = true
theorem stepOut_okS {acc : List Tok} {c : UInt8} {l : Bytes} {a : List Tok} {t : Sc} {r : Bytes} (h : stepOut acc c l = .inl (a, t, r)) (ha : ∀ x ∈ acc, okS x) : ∀ x ∈ a, okS x := by
  unfold stepOut at h
  repeat' split at h
  all_goals first
    | (cases h; done)
    | (cases h; exact ha)
    | (cases h
       intro x hx
       rcases List.mem_append.1 hx with h1 | h1
       · exact ha x h1
       · rw [List.mem_singleton.1 h1]; exact fun _ => ⟨_, rfl, by assumption⟩)
theorem okS_add {l : List Tok} {t : Tok} (h : ∀ x ∈ l, okS x) (ht : okS t) : ∀ x ∈ l ++ [t], okS x := by
  intro x hx
  rcases List.mem_append.1 hx with h1 | h1
  · exact h x h1
  · rw [List.mem_singleton.1 h1]; exact ht
theorem step_okS {acc : List Tok} {st : Sc} {c : UInt8} {l : Bytes} {a : List Tok} {t : Sc} {r : Bytes} (h : step acc st c l = .inl (a, t, r)) (ha : ∀ x ∈ acc, okS x) : ∀ x ∈ a, okS x := by
  cases st with
  | out => exact stepOut_okS h ha
  | atom w =>
    unfold step at h
    simp only [] at h
    split at h
    · cases h; exact ha
    · exact stepOut_okS h (okS_add ha (fun e => by cases e))
  | quot w q =>
    cases q <;> unfold step at h <;> simp only [] at h <;> repeat' split at h
    all_goals first
      | (cases h; done)
      | (cases h; exact ha)
      | (cases h; exact okS_add ha (fun e => by cases e))
  | comm d q =>
    cases q <;> unfold step at h <;> simp only [] at h <;> (try unfold commAfter at h) <;> repeat' split at h
    all_goals first
      | (cases h; done)
      | (cases h; exact ha)
theorem scan_okS : ∀ (k : Nat) (acc : List Tok) (st : Sc) (l : Bytes), (∀ x ∈ acc, okS x) → ∀ x ∈ (scan k acc st l).1, okS x
  | k, acc, st, [], ha => by
    have e : scan k acc st [] = endOf acc st := by cases k <;> rfl
    rw [e]
    cases st with
    | out => exact ha
    | atom w => exact okS_add ha (fun e => by cases e)
    | quot w b => intro t ht; cases ht
    | comm d b => intro t ht; cases ht
  | 0, acc, st, c :: l, ha => by intro t ht; cases ht
  | k + 1, acc, st, c :: l, ha => by
    rw [scan]
    cases hs : step acc st c l with
    | inr e => intro t ht; cases ht
    | inl x =>
      obtain ⟨a, t, r⟩ := x
      exact scan_okS k a t r (step_okS hs ha)
def pcS (p : PcL) : S73 := ⟨p.1.map tok148, str p.2⟩
theorem sign_cases {c : UInt8} (h : signB c = true) (h1 : c ≠ 64) (h2 : c ≠ 46) : stopB c = true := by
  have : c = 60 ∨ c = 62 ∨ c = 58 ∨ c = 59 ∨ c = 64 ∨ c = 44 ∨ c = 46 := by
    simpa [signB] using h
  rcases this with rfl | rfl | rfl | rfl | rfl | rfl | rfl <;> first | rfl | exact absurd rfl h1 | exact absurd rfl h2
theorem cutR_l0 (T : List Tok) (hT : T.length ≤ 100000) (hS : ∀ t ∈ T, okS t) : ∀ (r : List Tok) (i k : Nat) (acc : List PcL) (p : List Tok), T.drop i = r → i ≤ T.length → r.length < k → acc.length ≤ i → p.length ≤ i →
    bulletinref14_cut.l0 k (T.map tok148) (acc.map pcS) (i : Int) (p.map tok148) (str []) = some ((acc ++ cutA p r).map pcS)
  | [], i, k, acc, p, hd, hi, hk, ha, hp => by
    obtain ⟨k, rfl⟩ : ∃ j, k = j + 1 := ⟨k - 1, by omega⟩
    have hz : T.length ≤ i := by
      have := congrArg List.length hd
      rw [List.length_drop, List.length_nil] at this
      omega
    rw [bulletinref14_cut.l0, if_neg (by rw [List.length_map]; omega), if_pos (by rw [List.length_map]; omega), cutA]
    simp [pcS]
  | t :: r, i, k, acc, p, hd, hi, hk, ha, hp => by
    simp only [List.length_cons] at hk
    obtain ⟨k, rfl⟩ : ∃ j, k = j + 1 := ⟨k - 1, by omega⟩
    have hlt : i < T.length := by
      have := congrArg List.length hd
      rw [List.length_drop, List.length_cons] at this
      omega
    have hmem : t ∈ T := List.mem_of_mem_drop (i := i) (by rw [hd]; exact List.mem_cons_self)
    have hd1 : T.drop (i + 1) = r := by rw [← List.drop_drop, hd]; rfl
    have keep : stopT t = false → (if (p.map tok148).length < 5864062014805 then (bulletinref14_cut.l0 k (T.map tok148) (acc.map pcS) (wrap64 ((i : Int) + 1)) ((p.map tok148) ++ [(⟨(tok148 t).f0, (tok148 t).f1⟩ : S113)]) (str [])) else none) = some ((acc ++ cutA p (t :: r)).map pcS) := fun hs => by
      rw [if_pos (by rw [List.length_map]; omega), wrap_succ i (by omega), cutA, if_neg (by rw [hs]; decide), show (p.map tok148) ++ [(⟨(tok148 t).f0, (tok148 t).f1⟩ : S113)] = (p ++ [t]).map tok148 by simp [tok148]]
      exact cutR_l0 T hT hS r (i + 1) k acc (p ++ [t]) hd1 (by omega) (by omega) (by omega) (by simp; omega)
    rw [bulletinref14_cut.l0, if_pos (by rw [List.length_map]; omega), if_pos (by omega), rd148 hd]
    by_cases h3 : t.1 = 3
    · obtain ⟨c, hc, hsg⟩ := hS t hmem h3
      refine (if_pos h3).trans ?_
      by_cases h64 : t.2 = [64]
      · rw [if_pos (show (tok148 t).f1.toList = [64] by rw [toList148]; exact h64)]; exact keep (by unfold stopT; rw [h64]; simp [stopB])
      · rw [if_neg (show ¬ (tok148 t).f1.toList = [64] by rw [toList148]; exact h64)]
        by_cases h46 : t.2 = [46]
        · rw [if_pos (show (tok148 t).f1.toList = [46] by rw [toList148]; exact h46)]; exact keep (by unfold stopT; rw [h46]; simp [stopB])
        · rw [if_neg (show ¬ (tok148 t).f1.toList = [46] by rw [toList148]; exact h46)]
          have hst : stopT t = true := by
            unfold stopT
            rw [hc]
            simp only [h3, beq_self_eq_true, Bool.true_and]
            exact sign_cases hsg (fun q => h64 (by rw [hc, q])) (fun q => h46 (by rw [hc, q]))
          rw [if_pos (by rw [List.length_map]; omega), wrap_succ i (by omega), cutA, if_pos hst, show acc.map pcS ++ [(⟨p.map tok148, (tok148 t).f1⟩ : S73)] = (acc ++ [(p, t.2)]).map pcS by simp [pcS, tok148], show (⟨#[]⟩ : ByteArray) = str [] from rfl]
          have := cutR_l0 T hT hS r (i + 1) k (acc ++ [(p, t.2)]) [] hd1 (by omega) (by omega) (by simp; omega) (by simp)
          rw [List.append_assoc] at this
          exact this
    · refine (if_neg h3).trans ?_
      exact keep (by unfold stopT; simp [h3])
theorem cutR_is (T : List Tok) (hT : T.length ≤ 100000) (hS : ∀ t ∈ T, okS t) (k : Nat) (hk : T.length < k) : bulletinref14_cut.f k (T.map tok148) = some ((cutA [] T).map pcS) :=
  cutR_l0 T hT hS T 0 k [] [] List.drop_zero (Nat.zero_le _) hk (by simp) (by simp)
theorem join_snoc (y : Bytes) : ∀ xs : List Bytes, Lib.join (xs ++ [y]) [32] = if xs = [] then y else Lib.join xs [32] ++ [32] ++ y
  | [] => by simp [Lib.join, List.intercalate]
  | [x] => by simp [Lib.join, List.intercalate]
  | x :: x2 :: xs => by
    have := join_snoc y (x2 :: xs)
    rw [if_neg (by simp)] at this
    rw [if_neg (by simp)]
    simp only [List.cons_append] at this ⊢
    have c2 : ∀ (p q : Bytes) (r : List Bytes), Lib.join (p :: q :: r) [32] = p ++ [32] ++ Lib.join (q :: r) [32] := fun p q r => by simp [Lib.join, List.intercalate]
    rw [c2, c2, this]
    simp
theorem wordsR_l0 (L : List Tok) (hL : L.length ≤ 100000) (hc : (cat L).length ≤ 100000) (sg : ByteArray) : ∀ (r : List Tok) (i k : Nat), L.drop i = r → i ≤ L.length → r.length < k →
    bulletinref14_words.l0 k (str (wordsP (L.take i))) (i : Int) (L.map tok148) sg = some (if r.all wordT = true then (str (wordsP L), true) else (str [], false))
  | [], i, k, hd, hi, hk => by
    obtain ⟨k, rfl⟩ : ∃ j, k = j + 1 := ⟨k - 1, by omega⟩
    have hz : L.length ≤ i := by
      have := congrArg List.length hd
      rw [List.length_drop, List.length_nil] at this
      omega
    rw [bulletinref14_words.l0, if_neg (by rw [List.length_map]; omega), List.take_of_length_le hz]
    rfl
  | t :: r, i, k, hd, hi, hk => by
    simp only [List.length_cons] at hk
    obtain ⟨k, rfl⟩ : ∃ j, k = j + 1 := ⟨k - 1, by omega⟩
    have hlt : i < L.length := by
      have := congrArg List.length hd
      rw [List.length_drop, List.length_cons] at this
      omega
    have hd1 : L.drop (i + 1) = r := by rw [← List.drop_drop, hd]; rfl
    have hst : L.take (i + 1) = L.take i ++ [t] := by
      rw [List.take_succ_eq_append_getElem hlt]
      congr 2
      have := List.getElem?_drop (xs := L) (i := i) (j := 0)
      rw [hd] at this
      simpa [List.getElem?_eq_getElem hlt] using this.symm
    have hsz : (wordsP (L.take (i + 1))).length ≤ 300000 := by
      have h1 := join_len (L.take (i + 1))
      have h2 : (cat (L.take (i + 1))).length ≤ (cat L).length := by
        conv => rhs; rw [← List.take_append_drop (i + 1) L]
        rw [cat_app, List.length_append]; omega
      unfold wordsP
      rw [List.length_take] at h1
      omega
    have hsn : wordsP (L.take (i + 1)) = if i = 0 then t.2 else wordsP (L.take i) ++ [32] ++ t.2 := by
      unfold wordsP
      rw [hst, List.map_append, List.map_cons, List.map_nil, join_snoc]
      by_cases h0 : i = 0
      · rw [if_pos h0, if_pos (by rw [h0]; rfl)]
      · rw [if_neg h0, if_neg (by simp; exact ⟨h0, fun q => by rw [q] at hlt; exact absurd hlt (by simp)⟩)]
    have ih := wordsR_l0 L hL hc sg r (i + 1) k hd1 (by omega) (by omega)
    rw [bulletinref14_words.l0, if_pos (by rw [List.length_map]; omega), if_pos (by omega), rd148 hd]
    by_cases h3 : t.1 = 3
    · have hw : wordT t = false := by unfold wordT; simp [h3]
      refine (if_pos h3).trans ?_
      rw [if_neg (by rw [List.all_cons, hw]; simp)]
      rfl
    · have hw : wordT t = true := by unfold wordT; simpa using h3
      refine (if_neg h3).trans ?_
      rw [show ((t :: r).all wordT) = r.all wordT by rw [List.all_cons, hw]; simp, wrap_succ i (by omega), show (tok148 t).f1 = str t.2 from rfl]
      by_cases h0 : i = 0
      · subst h0
        rw [if_pos rfl] at hsn
        rw [if_neg (by decide), if_pos (by rw [str_size, str_size]; rw [hsn] at hsz; simp [wordsP, Lib.join, List.intercalate]; omega), str_app]
        rw [hsn] at ih
        exact ih
      · rw [if_neg h0] at hsn
        have hl := congrArg List.length hsn
        simp only [List.length_append, List.length_singleton] at hl
        rw [if_pos (by omega), if_pos (by rw [str_size]; omega), str_lit #[32], str_app, if_pos (by rw [str_size, str_size]; simp; omega), str_app]
        rw [hsn] at ih
        exact ih
theorem wordsR_is (L : List Tok) (hL : L.length ≤ 100000) (hc : (cat L).length ≤ 100000) (sg : ByteArray) (k : Nat) (hk : L.length < k) :
    bulletinref14_words.f k (L.map tok148) sg = some (if L.all wordT = true then (str (wordsP L), true) else (str [], false)) :=
  wordsR_l0 L hL hc sg L 0 k List.drop_zero (Nat.zero_le _) hk
/-! the walk over the pieces -/
def toRB (x : BoxL) : S40 := ⟨str x.1, ⟨str x.2.1, str x.2.2⟩⟩
def resS (x : ResL) : List S40 × Int := (x.1.map toRB, x.2)
structure Wf (ps : List PcL) : Prop where
  len : ps.length ≤ 100000
  small : ∀ p ∈ ps, p.1.length ≤ 50000 ∧ (cat p.1).length ≤ 50000
  more : ∀ i p r, ps.drop i = p :: r → p.2 ≠ [] → r ≠ []
theorem drop_at {ps : List PcL} {i : Nat} {p : PcL} {r : List PcL} (h : ps.drop i = p :: r) : i < ps.length ∧ p ∈ ps ∧ ps.drop (i + 1) = r ∧ rd_T73 (ps.map pcS) (i : Int) = pcS p := by
  have hlt : i < ps.length := by
    have := congrArg List.length h
    rw [List.length_drop, List.length_cons] at this
    omega
  refine ⟨hlt, List.mem_of_mem_drop (i := i) (by rw [h]; exact List.mem_cons_self), by rw [← List.drop_drop, h]; rfl, ?_⟩
  have h1 : ps[i]? = some p := by
    have := congrArg List.head? h
    rw [List.head?_drop] at this
    exact this
  unfold rd_T73
  rw [List.getD_eq_getElem?_getD, List.getElem?_map]
  simp [h1]
theorem toListS (b c : Bytes) : ((str b).toList = c) = (b = c) := by rw [toList_str]
def nextP (nx : List PcL → List BoxL → Bool → ResL) (r : List PcL) (out : List BoxL) : ResL := match r with | [] => ([], 130) | q :: r' => if q.1 = [] then endP nx q.2 r' out false else ([], 130)
def afterP (nx : List PcL → List BoxL → Bool → ResL) (r : List PcL) (out : List BoxL) (g : Bool) : ResL := match r with | [] => ([], 130) | q2 :: r2 => if q2.1 = [] then semiP nx q2.2 r2 out g else ([], 130)
def angleP (nx : List PcL → List BoxL → Bool → ResL) (r : List PcL) (nm : Bytes) (out : List BoxL) (g : Bool) : ResL := match r with | [] => ([], 130) | q :: r' => boxP nm q.1 out fun out' => if q.2 = [62] then afterP nx r' out' g else ([], 130)
def groupP (nx : List PcL → List BoxL → Bool → ResL) (r : List PcL) (out : List BoxL) : ResL := match r with | [] => ([], 130) | q :: r' => if q.1 = [] ∧ q.2 = [59] then semiP nx q.2 r' out true else nx r out true
section walk
variable {ps : List PcL} (W : Wf ps) (nx : List PcL → List BoxL → Bool → ResL) (B i : Nat)
  (H : ∀ k j out g, B ≤ k → i ≤ j → j < ps.length → out.length ≤ 100 → bulletinref14_Read.l0 k (ps.map pcS) (out.map toRB) g ((j + 1 : Nat) : Int) = some (resS (nx (ps.drop (j + 1)) out g)))
include W H
theorem j6_is (k j : Nat) (hk : B ≤ k) (hij : i ≤ j) (hj : j < ps.length) (out : List BoxL) (ho : out.length ≤ 100) (g : Bool) (L : List S113) (sg : Bytes) :
    bulletinref14_Read.j6 (k + 2) (ps.map pcS) (out.map toRB) g (j : Int) L (str sg) = some (resS (endP nx sg (ps.drop (j + 1)) out g)) := by
  have hl := W.len
  have j7 : ∀ x, bulletinref14_Read.j7 (k + 1) (ps.map pcS) (out.map toRB) g (j : Int) x L (str sg) = some (resS (if x = true then (out, 0) else if sg = [44] then nx (ps.drop (j + 1)) out g else ([], 130))) := fun x => by
    rw [bulletinref14_Read.j7]
    cases x with
    | true => rfl
    | false =>
      rw [if_neg (c := false = true) (by decide), if_neg (c := false = true) (by decide)]
      by_cases h : sg = [44]
      · rw [if_pos (show (str sg).toList = [44] by rw [toListS]; exact h), if_pos h, wrap_succ j (by omega)]
        exact H k j out g hk hij hj ho
      · rw [if_neg (show ¬ (str sg).toList = [44] by rw [toListS]; exact h), if_neg h]; rfl
  rw [bulletinref14_Read.j6]
  unfold endP
  by_cases h : sg = []
  · rw [if_pos (show (str sg).toList = [] by rw [toListS]; exact h), j7]
    cases g with
    | true => rw [if_neg (c := (!true) = true) (by decide), if_neg (c := sg = [] ∧ true = false) (by rintro ⟨_, q⟩; cases q)]
    | false => rw [if_pos (c := (!false) = true) (by decide), if_pos (c := sg = [] ∧ false = false) ⟨h, rfl⟩]
  · rw [if_neg (show ¬ (str sg).toList = [] by rw [toListS]; exact h), j7, if_neg (c := false = true) (by decide), if_neg (c := sg = [] ∧ g = false) (fun q => h q.1)]
theorem j4_is (k j : Nat) (hk : B ≤ k) (hij : i ≤ j) (out : List BoxL) (ho : out.length ≤ 100) (g : Bool) (L : List S113) (p : PcL) (r : List PcL) (hd : ps.drop j = p :: r) :
    bulletinref14_Read.j4 (k + 4) (ps.map pcS) (out.map toRB) g (j : Int) L (str p.2) = some (resS (semiP nx p.2 r out g)) := by
  have hl := W.len
  obtain ⟨hj, hm, hr, _⟩ := drop_at hd
  have j5 : ∀ x, (x = true → p.2 ≠ []) → bulletinref14_Read.j5 (k + 3) (ps.map pcS) (out.map toRB) g (j : Int) x L (str p.2) = some (resS (if x = true then nextP nx r out else endP nx p.2 r out g)) := fun x hx => by
    rw [bulletinref14_Read.j5]
    cases x with
    | false =>
      rw [if_neg (c := false = true) (by decide), if_neg (c := false = true) (by decide), ← hr]
      exact j6_is W nx B i H k j hk hij hj out ho g L p.2
    | true =>
      rw [if_pos (c := true = true) rfl, if_pos (c := true = true) rfl, wrap_succ j (by omega)]
      have hne := W.more j p r hd (hx rfl)
      match r, hne, hr with
      | q :: r', _, hr =>
        obtain ⟨hj2, hm2, hr2, hrd2⟩ := drop_at hr
        rw [if_pos (by omega), if_pos (by rw [List.length_map]; omega), hrd2]
        show (if (((q.1.map tok148).length : Nat) : Int) > 0 then some ([], 130) else bulletinref14_Read.j6 (k + 2) (ps.map pcS) (out.map toRB) false ((j + 1 : Nat) : Int) (q.1.map tok148) (str q.2)) = some (resS (if q.1 = [] then endP nx q.2 r' out false else ([], 130)))
        rw [List.length_map]
        by_cases h : q.1 = []
        · rw [if_neg (by rw [h]; simp), if_pos h, ← hr2]
          exact j6_is W nx B i H k (j + 1) hk (by omega) hj2 out ho false _ q.2
        · rw [if_pos (by have := List.length_pos_iff.2 h; omega), if_neg h]; rfl
  rw [bulletinref14_Read.j4]
  unfold semiP
  by_cases h : p.2 = [59]
  · rw [if_pos (show (str p.2).toList = [59] by rw [toListS]; exact h), j5 g (fun _ => by rw [h]; simp)]
    cases g with
    | true => rw [if_pos (c := true = true) rfl, if_pos (c := p.2 = [59] ∧ true = true) ⟨h, rfl⟩]; rfl
    | false => rw [if_neg (c := false = true) (by decide), if_neg (c := p.2 = [59] ∧ false = true) (by rintro ⟨_, q⟩; cases q)]
  · rw [if_neg (show ¬ (str p.2).toList = [59] by rw [toListS]; exact h), j5 false (fun q => by cases q), if_neg (c := false = true) (by decide), if_neg (c := p.2 = [59] ∧ g = true) (fun q => h q.1)]
theorem j3_is (k j : Nat) (hB : 1000000 ≤ B) (hk : B ≤ k) (hij : i ≤ j) (out : List BoxL) (ho : out.length ≤ 100) (g x14 : Bool) (nm : Bytes) (p : PcL) (r : List PcL) (hd : ps.drop j = p :: r) (hx : x14 = true → p.2 ≠ [] ∨ True) :
    bulletinref14_Read.j3 (k + 5) (ps.map pcS) (out.map toRB) g (j : Int) x14 (p.1.map tok148) (str p.2) (str nm) ⟨#[]⟩ ⟨#[]⟩ = some (resS (boxP nm p.1 out fun out' => if x14 = true then (if p.2 = [62] then afterP nx r out' g else ([], 130)) else semiP nx p.2 r out' g)) := by
  have hl := W.len
  obtain ⟨hj, hm, hr, _⟩ := drop_at hd
  obtain ⟨w1, w2⟩ := W.small p hm
  rw [bulletinref14_Read.j3, refOf_is p.1 (by omega) w2 (k + 4) (by omega), Option.bind_some]
  unfold boxP
  by_cases g1 : (ofT p.1).2.2 = 0
  · rw [if_pos g1, if_neg (c := (ofT p.1).2.2 ≠ 0) (fun q => q g1), List.length_map]
    by_cases g2 : out.length = 100
    · rw [if_pos (by omega), if_pos g2]; rfl
    · rw [if_neg (by omega), if_neg g2, if_pos (by omega), Option.bind_some, show out.map toRB ++ [(⟨str nm, ⟨(ofT p.1).1, (ofT p.1).2.1⟩⟩ : S40)] = (out ++ [(nm, bs (ofT p.1).1, bs (ofT p.1).2.1)]).map toRB by simp [toRB, str_bs]]
      generalize hO : out ++ [(nm, bs (ofT p.1).1, bs (ofT p.1).2.1)] = o2
      have ho2 : o2.length ≤ 100 := by rw [← hO, List.length_append, List.length_singleton]; omega
      cases x14 with
      | false => 
        rw [if_neg (c := false = true) (by decide)]
        refine (j4_is W nx B i H k j hk hij o2 ho2 g _ p r hd).trans ?_
        rfl
      | true =>
        rw [if_pos (c := true = true) rfl]
        by_cases g3 : p.2 = [62]
        · rw [if_pos (show (str p.2).toList = [62] by rw [toListS]; exact g3), wrap_succ j (by omega)]
          have hne := W.more j p r hd (by rw [g3]; simp)
          match r, hne, hr with
          | q :: r', _, hr =>
            obtain ⟨hj2, hm2, hr2, hrd2⟩ := drop_at hr
            rw [if_pos (by omega), if_pos (by rw [List.length_map]; omega), hrd2]
            show (if (((q.1.map tok148).length : Nat) : Int) > 0 then some ([], 130) else bulletinref14_Read.j4 (k + 4) (ps.map pcS) (o2.map toRB) g ((j + 1 : Nat) : Int) (q.1.map tok148) (str q.2)) = some (resS (if true = true then (if p.2 = [62] then (if q.1 = [] then semiP nx q.2 r' o2 g else ([], 130)) else ([], 130)) else semiP nx p.2 (q :: r') o2 g))
            rw [List.length_map, if_pos (c := true = true) rfl, if_pos g3]
            by_cases h : q.1 = []
            · rw [if_neg (by rw [h]; simp), if_pos h]
              exact j4_is W nx B i H k (j + 1) hk (by omega) o2 ho2 g _ q r' hr
            · rw [if_pos (by have := List.length_pos_iff.2 h; omega), if_neg h]; rfl
        · rw [if_neg (show ¬ (str p.2).toList = [62] by rw [toListS]; exact g3)]
          show _ = some (resS (if true = true then (if p.2 = [62] then _ else ([], 130)) else _))
          rw [if_pos (c := true = true) rfl, if_neg g3]; rfl
  · rw [if_neg g1, if_pos (c := (ofT p.1).2.2 ≠ 0) g1]; rfl
theorem j1_is (k : Nat) (hB : 1000000 ≤ B) (hk : B ≤ k) (out : List BoxL) (ho : out.length ≤ 100) (g x57 : Bool) (p : PcL) (r : List PcL) (hd : ps.drop i = p :: r) (hx : x57 = true → p.2 = [58]) (nm : ByteArray) (pl : Bool) (hpl : plainP p.1 = pl) (hnm : pl = true → nm = str (wordsP p.1)) :
    bulletinref14_Read.j1 (k + 7) (ps.map pcS) (out.map toRB) g (i : Int) nm pl x57 (p.1.map tok148) (str p.2) = some (resS (if x57 = true then groupP nx r out else if p.2 = [60] ∧ plainP p.1 = true then angleP nx r (wordsP p.1) out g else boxP [] p.1 out fun out' => semiP nx p.2 r out' g)) := by
  have hl := W.len
  obtain ⟨hj, hm, hr, _⟩ := drop_at hd
  rw [bulletinref14_Read.j1, wrap_succ i (by omega)]
  cases x57 with
  | true =>
    rw [if_pos (c := true = true) rfl, if_pos (c := true = true) rfl]
    have hne := W.more i p r hd (by rw [hx rfl]; simp)
    match r, hne, hr with
    | q :: r', _, hr =>
      obtain ⟨hj2, hm2, hr2, hrd2⟩ := drop_at hr
      have hH := H (k + 6) i out true (by omega) (Nat.le_refl _) hj ho
      rw [hr] at hH
      rw [if_pos (by rw [List.length_map]; omega), if_pos (by omega), hrd2]
      show (if (((q.1.map tok148).length : Nat) : Int) = 0 then (if (str q.2).toList = [59] then bulletinref14_Read.j4 (k + 6) (ps.map pcS) (out.map toRB) true ((i + 1 : Nat) : Int) (q.1.map tok148) (str q.2) else bulletinref14_Read.l0 (k + 6) (ps.map pcS) (out.map toRB) true ((i + 1 : Nat) : Int)) else bulletinref14_Read.l0 (k + 6) (ps.map pcS) (out.map toRB) true ((i + 1 : Nat) : Int)) = some (resS (if q.1 = [] ∧ q.2 = [59] then semiP nx q.2 r' out true else nx (q :: r') out true))
      rw [List.length_map]
      by_cases h : q.1 = []
      · rw [if_pos (by rw [h]; simp)]
        by_cases h2 : q.2 = [59]
        · rw [if_pos (show (str q.2).toList = [59] by rw [toListS]; exact h2), if_pos (c := q.1 = [] ∧ q.2 = [59]) ⟨h, h2⟩]
          exact j4_is W nx B i H (k + 2) (i + 1) (by omega) (by omega) out ho true _ q r' hr
        · rw [if_neg (show ¬ (str q.2).toList = [59] by rw [toListS]; exact h2), if_neg (c := q.1 = [] ∧ q.2 = [59]) (fun z => h2 z.2)]
          exact hH
      · rw [if_neg (by have := List.length_pos_iff.2 h; omega), if_neg (c := q.1 = [] ∧ q.2 = [59]) (fun z => h z.1)]
        exact hH
  | false =>
    rw [if_neg (c := false = true) (by decide), if_neg (c := false = true) (by decide)]
    have j2 : ∀ x, (x = true → p.2 ≠ []) → bulletinref14_Read.j2 (k + 6) (ps.map pcS) (out.map toRB) g (i : Int) nm x (p.1.map tok148) (str p.2) ⟨#[]⟩ ⟨#[]⟩ ⟨#[]⟩ = if x = true then bulletinref14_Read.j3 (k + 5) (ps.map pcS) (out.map toRB) g ((i + 1 : Nat) : Int) true ((rd_T73 (ps.map pcS) ((i + 1 : Nat) : Int)).f0) ((rd_T73 (ps.map pcS) ((i + 1 : Nat) : Int)).f1) nm ⟨#[]⟩ ⟨#[]⟩ else bulletinref14_Read.j3 (k + 5) (ps.map pcS) (out.map toRB) g (i : Int) false (p.1.map tok148) (str p.2) (str []) ⟨#[]⟩ ⟨#[]⟩ := fun x hx => by
      rw [bulletinref14_Read.j2]
      cases x with
      | false => rw [if_neg (c := false = true) (by decide), if_neg (c := false = true) (by decide)]; rfl
      | true =>
        have hne := W.more i p r hd (hx rfl)
        have : i + 1 < ps.length := by
          have := congrArg List.length hr
          rw [List.length_drop] at this
          have := List.length_pos_iff.2 hne
          omega
        rw [if_pos (c := true = true) rfl, if_pos (c := true = true) rfl, wrap_succ i (by omega), if_pos (by omega), if_pos (by rw [List.length_map]; omega)]
    by_cases h60 : p.2 = [60]
    · rw [if_pos (show (str p.2).toList = [60] by rw [toListS]; exact h60), j2 pl (fun _ => by rw [h60]; simp)]
      cases hp : pl with
      | true =>
        rw [hp] at hpl
        rw [if_pos (c := true = true) rfl, if_pos (c := p.2 = [60] ∧ plainP p.1 = true) ⟨h60, hpl⟩, hnm hp]
        have hne := W.more i p r hd (by rw [h60]; simp)
        match r, hne, hr with
        | q :: r', _, hr =>
          obtain ⟨hj2, hm2, hr2, hrd2⟩ := drop_at hr
          rw [hrd2]
          exact j3_is W nx B i H k (i + 1) hB hk (by omega) out ho g true (wordsP p.1) q r' hr (fun _ => .inr trivial)
      | false =>
        rw [hp] at hpl
        rw [if_neg (c := false = true) (by decide), if_neg (c := p.2 = [60] ∧ plainP p.1 = true) (fun z => by rw [hpl] at z; cases z.2)]
        exact j3_is W nx B i H k i hB hk (Nat.le_refl _) out ho g false [] p r hd (fun _ => .inr trivial)
    · rw [if_neg (show ¬ (str p.2).toList = [60] by rw [toListS]; exact h60), j2 false (fun z => by cases z), if_neg (c := false = true) (by decide), if_neg (c := p.2 = [60] ∧ plainP p.1 = true) (fun z => h60 z.1)]
      exact j3_is W nx B i H k i hB hk (Nat.le_refl _) out ho g false [] p r hd (fun _ => .inr trivial)
end walk
theorem read_l0 {ps : List PcL} (W : Wf ps) : ∀ (n i k : Nat) (out : List BoxL) (g : Bool), (ps.drop i).length < n → i ≤ ps.length → out.length ≤ 100 → 1000000 + 10 * n ≤ k →
    bulletinref14_Read.l0 k (ps.map pcS) (out.map toRB) g (i : Int) = some (resS (refP n (ps.drop i) out g))
  | 0, i, k, out, g, h1, h2, h3, h4 => absurd h1 (by omega)
  | n + 1, i, k, out, g, h1, h2, h3, h4 => by
    have hl := W.len
    obtain ⟨k, rfl⟩ : ∃ j, k = j + 8 := ⟨k - 8, by omega⟩
    have H : ∀ k j out g, 1000000 + 10 * n ≤ k → i ≤ j → j < ps.length → out.length ≤ 100 → bulletinref14_Read.l0 k (ps.map pcS) (out.map toRB) g ((j + 1 : Nat) : Int) = some (resS (refP n (ps.drop (j + 1)) out g)) := fun k j o g a b c d =>
      read_l0 W n (j + 1) k o g (by rw [List.length_drop] at h1 ⊢; omega) (by omega) d a
    cases hd : ps.drop i with
    | nil =>
      have hz : ps.length ≤ i := by
        have := congrArg List.length hd
        rw [List.length_drop, List.length_nil] at this
        omega
      rw [bulletinref14_Read.l0, if_neg (by rw [List.length_map]; omega)]
      rfl
    | cons p r =>
      obtain ⟨hj, hm, hr, hrd⟩ := drop_at hd
      obtain ⟨w1, w2⟩ := W.small p hm
      have hw : bulletinref14_words.f (k + 7) ((pcS p).f0) ((pcS p).f1) = some (if p.1.all wordT = true then (str (wordsP p.1), true) else (str [], false)) := wordsR_is p.1 (by omega) (by omega) (str p.2) (k + 7) (by omega)
      rw [bulletinref14_Read.l0, if_pos (by rw [List.length_map]; omega), if_pos (by omega), hrd, hw, Option.bind_some]
      obtain ⟨pl, hpl⟩ : ∃ x, plainP p.1 = x := ⟨_, rfl⟩
      have hbt : (if p.1.all wordT = true then (str (wordsP p.1), true) else (str [], false)) = ((if pl = true then str (wordsP p.1) else str []), pl) := by
        rw [show p.1.all wordT = pl from hpl]; cases pl <;> rfl
      rw [hbt]
      have J := fun x57 hx => j1_is W (refP n) (1000000 + 10 * n) i H k (by omega) (by omega) out h3 g x57 p r hd hx (if pl = true then str (wordsP p.1) else str []) pl hpl (fun q => if_pos q)
      show (if (str p.2).toList = [58] then (if pl = true then (if (((p.1.map tok148).length : Nat) : Int) > 0 then bulletinref14_Read.j1 (k + 7) (ps.map pcS) (out.map toRB) g (i : Int) (if pl = true then str (wordsP p.1) else str []) pl (!g) (p.1.map tok148) (str p.2) else bulletinref14_Read.j1 (k + 7) (ps.map pcS) (out.map toRB) g (i : Int) (if pl = true then str (wordsP p.1) else str []) pl false (p.1.map tok148) (str p.2)) else bulletinref14_Read.j1 (k + 7) (ps.map pcS) (out.map toRB) g (i : Int) (if pl = true then str (wordsP p.1) else str []) pl false (p.1.map tok148) (str p.2)) else bulletinref14_Read.j1 (k + 7) (ps.map pcS) (out.map toRB) g (i : Int) (if pl = true then str (wordsP p.1) else str []) pl false (p.1.map tok148) (str p.2)) = _
      have no := fun (hc : ¬ (p.2 = [58] ∧ plainP p.1 = true ∧ p.1 ≠ [] ∧ g = false)) => (J false (fun q => by cases q)).trans (show _ = some (resS (refP (n + 1) (p :: r) out g)) by rw [refP_cons, if_neg (c := false = true) (by decide), if_neg hc]; rfl)
      by_cases c1 : p.2 = [58]
      · rw [if_pos (show (str p.2).toList = [58] by rw [toListS]; exact c1)]
        by_cases c2 : pl = true
        · rw [if_pos c2, List.length_map]
          by_cases c3 : p.1 = []
          · rw [if_neg (by rw [c3]; simp)]
            exact no (fun q => q.2.2.1 c3)
          · rw [if_pos (by have := List.length_pos_iff.2 c3; omega)]
            cases g with
            | true => exact no (fun q => by cases q.2.2.2)
            | false =>
              refine (J true (fun _ => c1)).trans ?_
              rw [refP_cons, if_pos (c := true = true) rfl, if_pos (c := p.2 = [58] ∧ plainP p.1 = true ∧ p.1 ≠ [] ∧ false = false) ⟨c1, hpl.trans c2, c3, rfl⟩]
              rfl
        · rw [if_neg c2]
          exact no (fun q => c2 (hpl.symm.trans q.2.1))
      · rw [if_neg (show ¬ (str p.2).toList = [58] by rw [toListS]; exact c1)]
        exact no (fun q => c1 q.1)
/-! the pieces are well formed -/
theorem cut_more : ∀ (l a : List Tok) (i : Nat) (p : PcL) (r : List PcL), (cutA a l).drop i = p :: r → (∀ t ∈ l, okS t) → p.2 ≠ [] → r ≠ []
  | [], a, i, p, r, h, hS, hp => by
    rw [cutA] at h
    cases i with
    | zero => cases h; exact absurd rfl hp
    | succ i => simp at h
  | t :: l, a, i, p, r, h, hS, hp => by
    rw [cutA] at h
    have hS' : ∀ t ∈ l, okS t := fun x hx => hS x (List.mem_cons_of_mem _ hx)
    split at h
    · cases i with
      | zero =>
        rw [List.drop_zero] at h
        cases h
        rw [cut_span]; simp
      | succ i => exact cut_more l [] i p r h hS' hp
    · exact cut_more l (a ++ [t]) i p r h hS' hp
theorem cut_sizes : ∀ (l a : List Tok), (cutA a l).length ≤ l.length + 1 ∧ ∀ p ∈ cutA a l, p.1.length ≤ a.length + l.length ∧ (cat p.1).length ≤ (cat a).length + (cat l).length
  | [], a => by
    rw [cutA]
    refine ⟨by simp, fun p hp => ?_⟩
    rw [List.mem_singleton.1 hp]; simp [cat]
  | t :: l, a => by
    rw [cutA]
    have hc : (cat (t :: l)).length = t.2.length + (cat l).length := by simp [cat]
    split
    · obtain ⟨i1, i2⟩ := cut_sizes l []
      refine ⟨by simp only [List.length_cons]; omega, fun p hp => ?_⟩
      rcases List.mem_cons.1 hp with rfl | hp
      · simp only [List.length_cons]; constructor <;> omega
      · obtain ⟨x1, x2⟩ := i2 p hp
        simp only [List.length_cons, List.length_nil, Nat.zero_add] at x1 ⊢
        rw [show (cat ([] : List Tok)).length = 0 from rfl] at x2
        constructor <;> omega
    · obtain ⟨i1, i2⟩ := cut_sizes l (a ++ [t])
      refine ⟨by simp only [List.length_cons]; omega, fun p hp => ?_⟩
      obtain ⟨x1, x2⟩ := i2 p hp
      rw [cat_app, List.length_append] at x2
      have : (cat [t]).length = t.2.length := by simp [cat]
      simp only [List.length_append, List.length_cons, List.length_nil] at x1 ⊢
      constructor <;> omega
theorem refRead_is (s : ByteArray) (hs : s.size ≤ 40000) (k : Nat) (hk : 2000000 ≤ k) : bulletinref14_Read.f k s = some (resS (readL (bs s))) := by
  have hb := bs_length s
  have hbd := scanL_bound (bs s)
  have hok := scan_okS (bs s).length [] .out (bs s) (fun x hx => by cases hx)
  unfold bulletinref14_Read.f
  rw [refScan_is s (by omega) k (by omega), Option.bind_some]
  unfold res148 readL
  rw [show scan (bs s).length [] .out (bs s) = scanL [] .out (bs s) from rfl] at hok
  generalize hT : scanL [] .out (bs s) = T at hbd hok ⊢
  obtain ⟨T, e⟩ := T
  simp only [] at hbd hok ⊢
  by_cases he : e = 0
  · rw [if_pos he, if_neg (by simpa using he), cutR_is T (by omega) hok k (by omega), Option.bind_some]
    obtain ⟨z1, z2⟩ := cut_sizes T []
    have W : Wf (cutA [] T) := ⟨by omega, fun p hp => by have := z2 p hp; rw [show (cat ([] : List Tok)).length = 0 from rfl] at this; simp at this; omega, fun i p r h hp => cut_more T [] i p r h hok hp⟩
    have := read_l0 W (T.length + 2) 0 k [] false (by rw [List.drop_zero]; omega) (Nat.zero_le _) (by simp) (by omega)
    rw [List.drop_zero, refP_read T _ (by omega)] at this
    exact this
  · rw [if_neg he, if_pos (by simpa using he)]
    rfl
end Go.Proofs.YtihabmcaplnbcaaDoor.Pl
set_option linter.unusedVariables false
set_option linter.unusedSimpArgs false
namespace Go.Proofs.YtihabmcaplnbcaaDoor.Pl
open Go.RowKit Go.Proofs.YtihabmcaplnbcaaDoorW.PrintWords Go.Proofs.YtihabmcaplnbcaaDoor.Fn
/-! Layer 14: what is read is the document's -/
theorem rdRB {xs : List BoxL} {i : Nat} {x : BoxL} {r : List BoxL} (h : xs.drop i = x :: r) : rd_T40 (xs.map toRB) (i : Int) = toRB x ∧ rd_T33 (xs.map toBox) (i : Int) = toBox x := by
 have h1 : xs[i]? = some x := by
  have := congrArg List.head? h
  rw [List.head?_drop] at this
  exact this
 unfold rd_T40 rd_T33
 rw [List.getD_eq_getElem?_getD, List.getElem?_map, List.getD_eq_getElem?_getD, List.getElem?_map]
 simp [h1]
theorem sameR_l0 (xs : List BoxL) (hx : xs.length ≤ 100000) : ∀ (r : List BoxL) (i k : Nat), xs.drop i = r → i ≤ xs.length → r.length < k →
  bulletinlaw14_Same.l0 k (xs.map toBox) (xs.map toRB) true (i : Int) = some true
 | [], i, k, hd, hi, hk => by
  obtain ⟨k, rfl⟩ : ∃ j, k = j + 1 := ⟨k - 1, by omega⟩
  have hz : xs.length ≤ i := by
   have := congrArg List.length hd
   rw [List.length_drop, List.length_nil] at this
   omega
  rw [bulletinlaw14_Same.l0, if_pos rfl, if_neg (by rw [List.length_map]; omega)]
 | x :: r, i, k, hd, hi, hk => by
  simp only [List.length_cons] at hk
  obtain ⟨k, rfl⟩ : ∃ j, k = j + 1 := ⟨k - 1, by omega⟩
  have hlt : i < xs.length := by
   have := congrArg List.length hd
   rw [List.length_drop, List.length_cons] at this
   omega
  obtain ⟨e1, e2⟩ := rdRB hd
  rw [bulletinlaw14_Same.l0, if_pos rfl, if_pos (by rw [List.length_map]; omega), if_pos (by rw [List.length_map]; omega), if_pos (by omega), e1, e2, wrap_succ i (by omega)]
  unfold bulletinlaw14_To.f
  rw [Option.bind_some]
  have hb : (((toBox x).f0.toList) == (toRB x).f0.toList && ((((toBox x).f1.f0).toList) == (toRB x).f1.f0.toList && ((((toBox x).f1.f1).toList) == (toRB x).f1.f1.toList))) = true := by
   unfold toBox toRB
   simp
  show bulletinlaw14_Same.l0 k (xs.map toBox) (xs.map toRB) (((toBox x).f0.toList) == (toRB x).f0.toList && ((((toBox x).f1.f0).toList) == (toRB x).f1.f0.toList && ((((toBox x).f1.f1).toList) == (toRB x).f1.f1.toList))) ((i + 1 : Nat) : Int) = some true
  rw [hb]
  exact sameR_l0 xs hx r (i + 1) k (by rw [← List.drop_drop, hd]; rfl) (by omega) (by omega)
theorem sameR_is (xs : List BoxL) (hx : xs.length ≤ 100000) (k : Nat) (hk : xs.length < k) : bulletinlaw14_Same.f k (xs.map toBox) (xs.map toRB) = some true := by
 unfold bulletinlaw14_Same.f
 rw [show (((xs.map toBox).length : Int) == ((xs.map toRB).length : Int)) = true by simp]
 exact sameR_l0 xs hx xs 0 k List.drop_zero (Nat.zero_le _) hk
theorem MbxReads (s : ByteArray) : ∃ k, bulletinlaw14_MbxReads.f k s = some true := by
 obtain ⟨M, hM⟩ : ∃ M : Nat, M = 2000000 := ⟨_, rfl⟩
 refine ⟨M + 2, ?_⟩
 unfold bulletinlaw14_MbxReads.f
 by_cases h1 : (s.size : Int) > 2000
 ·rw [if_pos h1, works14 (M + 2) (by omega), Option.bind_some]
 have hl := readL_len100 (bs s)
 rw [if_neg h1, mbxRead_is s (by omega), Option.bind_some, refRead_is s (by omega) (M + 2) (by omega), Option.bind_some, mbxOne_is s (by omega), Option.bind_some]
 unfold resS
 simp only []
 rw [sameR_is _ (by omega) (M + 2) (by omega), Option.bind_some, if_pos rfl, show ((readL (bs s)).2 != (readL (bs s)).2) = false by simp, bulletinlaw14_MbxReads.j0, if_neg (by decide)]
 unfold oneL
 obtain ⟨⟨xs, e⟩, hx⟩ : ∃ x, readL (bs s) = x := ⟨_, rfl⟩
 rw [hx]
 simp only []
 have hn : ((str ([] : Bytes)).toList == ([] : List UInt8) && ((str ([] : Bytes)).toList == ([] : List UInt8) && ((str ([] : Bytes)).toList == ([] : List UInt8)))) = true := by rw [toList_str]; rfl
 have none1 : ∀ (x6 d : Int) (q : List BoxL), d = (if x6 = 0 then 130 else x6) → bulletinlaw14_MbxReads.j1 (M + 1) (q.map toRB) x6 d true (str []) (str []) (str []) = some true := fun x6 d q hd => by
  rw [bulletinlaw14_MbxReads.j1, if_pos rfl]
  by_cases h6 : x6 = 0
  ·rw [if_pos h6] at hd
   rw [if_pos h6, if_pos hn, if_pos hd, works14 M (by omega), Option.bind_some]
  rw [if_neg h6] at hd
  rw [if_neg h6, if_pos hn, if_pos hd, works14 M (by omega), Option.bind_some]
 by_cases he : e = 0
 ·subst he
  refine (if_pos rfl).trans ?_
  rw [if_neg (c := (0 : Int) ≠ 0) (by simp)]
  match xs with
  | [] => exact none1 0 130 [] rfl
  | [x] =>
   rw [show (((([x] : List BoxL).map toRB).length : Int) != 1) = false from rfl, bulletinlaw14_MbxReads.j1, if_neg (by decide), if_pos (by simp)]
   unfold bulletinlaw14_To.f
   rw [show rd_T40 (([x] : List BoxL).map toRB) 0 = toRB x from rfl, Option.bind_some]
   refine (if_pos (by unfold toRB; simp)).trans ((if_pos rfl).trans ?_)
   rw [works14 M (by omega), Option.bind_some]
  | x :: y :: r =>
   rw [show ((((x :: y :: r : List BoxL).map toRB).length : Int) != 1) = true by rw [List.length_map]; simp only [List.length_cons]; exact bne_iff_ne.2 (by omega)]
   exact none1 0 130 (x :: y :: r) rfl
 refine (if_neg he).trans ?_
 rw [if_pos (c := e ≠ 0) he]
 exact none1 e e xs (by rw [if_neg he])
end Go.Proofs.YtihabmcaplnbcaaDoor.Pl
