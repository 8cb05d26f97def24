/- A part of the proof of this sentence: How any boxes are written, and any name, are as the document has them, for every input; the tables of unicode/utf8 are as the program's text lays them. -/
import Derived.Test.YtbjbpgmjijeppaaDoorCMbxShows3
import Derived.Deep.SlicePairs
import Derived.ProofKit
import Derived.OpenShut
namespace Go.Proofs.YtbjbpgmjijeppaaDoor.Fn
open Go.RowKit Go.Proofs.YtbjbpgmjijeppaaDoorW.PrintWords Go.Proofs.YtbjbpgmjijeppaaDoorW.PrintLast Go.Proofs.YtbjbpgmjijeppaaDoorW.PrintMore
attribute [local go_sem] max2_int min2_int max_two min_two max_three min_three max_four min_four
set_option linter.unusedVariables false
set_option linter.unusedSimpArgs false

/-! ### bulletinlaw14_MbxShows: function 3 -/
mutual
def bulletinlaw14_MbxShows.j0 : Nat → List (S28) → ByteArray → Bool → Option (Bool)
 | 0, _, _, _ => none
 | k + 1, x0, x1, x14 => if x14 = true then ((bulletinlaw14_works.f k).bind fun t280 => (some t280)) else (bulletinlaw14_MbxShows.l0 k x0 x1 ([] : List (S31)) 0)
def bulletinlaw14_MbxShows.l0 : Nat → List (S28) → ByteArray → List (S31) → Int → Option (Bool)
 | 0, _, _, _, _ => none
 | k + 1, x0, x1, x5, x6 => if x6 < (x0.length : Int) then (if 0 ≤ x6 then (if (((rd_T28 x0 x6).f0).size : Int) > 300 then (bulletinlaw14_MbxShows.j2 k x0 x1 x5 x6 true) else (if (((rd_T28 x0 x6).f1.f0).size : Int) > 300 then (bulletinlaw14_MbxShows.j2 k x0 x1 x5 x6 true) else (bulletinlaw14_MbxShows.j2 k x0 x1 x5 x6 (decide ((((rd_T28 x0 x6).f1.f1).size : Int) > 300))))) else (none)) else ((mbx_ShowAll.f k x5).bind fun t296 => ((bulletinref14_ShowAll.f k x0).bind fun t297 => (if t296.toList = t297.toList then ((mbx_Phrase.f x1).bind fun t298 => ((bulletinref14_Phrase.f k x1).bind fun t299 => (if t298.toList = t299.toList then ((bulletinlaw14_works.f k).bind fun t300 => (some t300)) else (some false)))) else (some false))))
def bulletinlaw14_MbxShows.j2 : Nat → List (S28) → ByteArray → List (S31) → Int → Bool → Option (Bool)
 | 0, _, _, _, _, _ => none
 | k + 1, x0, x1, x5, x6, x48 => if x48 = true then ((bulletinlaw14_works.f k).bind fun t284 => (some t284)) else (if 0 ≤ x6 then (if x6 < (x0.length : Int) then ((bulletinlaw14_To.f ((rd_T28 x0 x6).f0) ((rd_T28 x0 x6).f1.f0) ((rd_T28 x0 x6).f1.f1)).bind fun bt286 => (if x5.length < 2932031007402 then ((some (x5 ++ [(⟨bt286.1, (⟨bt286.2.1, bt286.2.2⟩ : S29)⟩ : S31)] : List (S31))).bind fun y289 => (if x6 < (y289.length : Int) then ((mbx_Show.f k ((rd_T31 y289 x6).f0) ((rd_T31 y289 x6).f1.f0) ((rd_T31 y289 x6).f1.f1)).bind fun t293 => ((bulletinref14_Show.f k ((rd_T28 x0 x6).f0) ((rd_T28 x0 x6).f1.f0) ((rd_T28 x0 x6).f1.f1)).bind fun t295 => (if t293.toList = t295.toList then (bulletinlaw14_MbxShows.l0 k x0 x1 y289 (wrap64 (x6 + 1))) else (some false)))) else (none))) else (none))) else (none)) else (none))
end
def bulletinlaw14_MbxShows.f (k : Nat) (l0 : List (S28)) (a1 : ByteArray) : Option (Bool) := if (l0.length : Int) > 40 then (bulletinlaw14_MbxShows.j0 k l0 a1 true) else (bulletinlaw14_MbxShows.j0 k l0 a1 (decide ((a1.size : Int) > 300)))
def bulletinlaw14_MbxShows.T10 : Bool × List (List Nat × List Nat) := (true, [([], []), ([], []), ([0, 1], [0, 1]), ([2], [2]), ([3], [3]), ([], []), ([], []), ([5, 6], [5, 6]), ([7], [7]), ([8, 4], [8]), ([4, 9], [4, 9])])
def bulletinlaw14_MbxShows.B10 : List Nat := [0, 0, 3, 7, 15, 0, 0, 96, 224, 511, 1023]
theorem bulletinlaw14_MbxShows.tab10 : rtab .any (opsOf Tryd.f3 10) = bulletinlaw14_MbxShows.T10 := by kernel_rfl
theorem bulletinlaw14_MbxShows.bits10 : waitsOk bulletinlaw14_MbxShows.T10.2 bulletinlaw14_MbxShows.B10 = true := by kernel_rfl
set_option maxHeartbeats 8000000 in
set_option maxRecDepth 100000 in
theorem bulletinlaw14_MbxShows.calls (k : Nat) (A0 : Option Addr) (c0 : Nat) (l0 : List (S28)) (a1 : ByteArray) (r : Bool) (w : World) (hG : Glob w) (hr0 : Kd.C k28 w A0 l0.length l0) (hc0 : l0.length ≤ c0) (h : bulletinlaw14_MbxShows.f k l0 a1 = some r) :
  Calls Tryd.prog 3 #[.slice A0 l0.length c0, .string a1] w fun e w' => e = .returned (.bool r) ∧ Below w.heap.size w w' := by
 have hu28 := Tryd.underlying28
 have hu31 := Tryd.underlying31
 have HR0 := Aside0.mk hr0
 have HC0 := Aside0.mk hc0
 clear hr0 hc0
 have HB := Aside0.mk (Below.refl w.heap.size w)
 have H : (if (l0.length : Int) > 40 then (bulletinlaw14_MbxShows.j0 k l0 a1 true) else (bulletinlaw14_MbxShows.j0 k l0 a1 (decide ((a1.size : Int) > 300)))) = some r := h
 clear h
 have HC3 := Aside0.mk H
 clear H
 go_enter Tryd.func3, Tryd.ntmps3
 go_upto_region 1 with (fail)
 go_cut [14] (fun v14 wc => ∃ (kq : Nat) (x14_2 : Bool), v14 = .bool x14_2 ∧ Aside0 (bulletinlaw14_MbxShows.j0 kq l0 a1 x14_2 = some r) ∧ Aside0 (kq ≤ k) ∧ Aside0 (Below w.heap.size w wc))
 case first =>
  have H := HC3.out
  clear HC3
  by_cases c4 : (l0.length : Int) > 40
  ·rw [if_pos c4] at H
   have c4b0 : decide (40 < (l0.length : Int)) = true := decide_eq_true c4
   have c4b1 : decide (40 < l0.length) = true := decide_eq_true (by omega)
   clear c4
   (first | rw [c4b0] | (simp only [i64_w, i32_w]; rw [c4b0]) | skip)
   have H' := Aside0.mk H
   clear H
   go_wp2
   go_meet
   case rel => exact ⟨_, (true), cl, H', ⟨by first | omega | exact Nat.le_refl _⟩, ⟨bw⟩⟩
  ·rw [if_neg c4] at H
   have c4b0 : decide (40 < (l0.length : Int)) = false := decide_eq_false c4
   have c4b1 : decide (40 < l0.length) = false := decide_eq_false (by omega)
   clear c4
   (first | rw [c4b0] | (simp only [i64_w, i32_w]; rw [c4b0]) | skip)
   have H' := Aside0.mk H
   clear H
   go_wp2
   go_meet
   case rel => exact ⟨_, (decide ((a1.size : Int) > 300)), cl, H', ⟨by first | omega | exact Nat.le_refl _⟩, ⟨bw⟩⟩
 case rest =>
  clear HC3
  try clear p2
  try clear c3
  try clear c4
  try clear c4b0
  try clear c4b1
  obtain ⟨kq, x14_2, rfl, HA, HJ2, HB⟩ := hcut
  cases kq with
  | zero => exact absurd HA.out (by simp [bulletinlaw14_MbxShows.j0])
  | succ kj2 =>
   have H := HA.out
   clear HA
   simp only [bulletinlaw14_MbxShows.j0] at H
   by_cases c5 : x14_2 = true
   ·subst c5
    have H1 : ((bulletinlaw14_works.f kj2).bind fun t280 => (some t280)) = some r := by rw [if_pos rfl] at H; exact H
    clear H
    have H := H1
    clear H1
    replace H := Option.bind_eq_some_iff.mp H
    obtain ⟨t280, A60, H⟩ := H
    replace H : (some t280) = some r := H
    have A6 := Aside0.mk A60
    clear A60
    obtain rfl := Option.some.inj H
    go_wp2_with (first | ((with_reducible refine gate_callee (f := 9) rfl ?_); refine goesL_ (some 15) rfl rfl Tryd.func9 (by kernel_rfl) rfl #[] rfl am ?_; (with_reducible refine (bulletinlaw14_works.calls (hG := by first | exact hG | exact Glob.below hG (by first | exact HB.out | (repeat (first | (with_reducible first | exact HB.out | apply below_alloc | apply pw_below_drewN | apply below_drew1) | exact HB.out))) | exact Glob.drawn hG (by repeat (first | exact Drawn0.refl _ | apply Drawn0.step))) kj2  t280 _ A6.out).mono ?_); rintro e w7 ⟨rfl, hb⟩; refine ⟨_, rfl, ?_⟩; have n0_ := Aside0.mk (below_step bw hb); clear HB; have HB := n0_; clear n0_; (try clear hb); (try clear hb2); (try clear hk); (try clear hi)))
    go_ret
    exact ⟨by first | rfl | (simp [errW_none, errW_some] <;> rfl) | (simp [*, errW_none, errW_some] <;> rfl), bw⟩
   ·replace c5 := Bool.eq_false_iff.mpr c5
    subst c5
    have H1 : (bulletinlaw14_MbxShows.l0 kj2 l0 a1 ([] : List (S31)) 0) = some r := by rw [if_neg (show ¬ (false = true) by decide)] at H; exact H
    clear H
    have H := H1
    clear H1
    have H' := Aside0.mk H
    clear H
    go_wp2
    go_loopg [5, 6] kj2 (fun kq v5 v6 w' => ∃ (x5_2 : List (S31)) (x6_2 : Int), v6 = .int .i64 x6_2 ∧ Aside0 (bulletinlaw14_MbxShows.l0 kq l0 a1 x5_2 x6_2 = some r) ∧ Aside0 (kq ≤ kj2) ∧ Aside0 (Kd.R k31 31 w' w.heap.size (fun _ => True) v5 x5_2) ∧ Aside0 (Below w.heap.size w w'))
    case atStart => exact ⟨(([] : List (S31))), (0), cl, H', ⟨Nat.le_refl _⟩, ⟨by first | exact Kd.R_nil _ _ _ _ _ | exact Kd.N_nil _ _ _ _ _ | exact Kd.V_nil _ _ _ _ _ | exact Kd.Q_nil _ _ _ _ _ | exact Kd.S_nil _ _ _ _ _⟩, ⟨bw⟩⟩
    case round =>
     clear H'
     try clear p2
     try clear c3
     try clear c4
     try clear c4b0
     try clear c4b1
     try clear c5
     try clear p2
     obtain ⟨x5_2, x6_2, rfl, HA, HK2, HO_5, HB⟩ := hrel
     cases gk with
     | zero => exact absurd HA.out (by simp [bulletinlaw14_MbxShows.l0])
     | succ k2 =>
      have H := HA.out
      clear HA
      simp only [bulletinlaw14_MbxShows.l0] at H
      by_cases c8 : x6_2 < (l0.length : Int)
      ·rw [if_pos c8] at H
       have c8b0 : decide (x6_2 < (l0.length : Int)) = true := decide_eq_true c8
       clear c8
       have HC9 := Aside0.mk H
       clear H
       go_upto_region 7 with (fail)
       go_cut [48] (fun v48 wc => ∃ (kq : Nat) (x48_8 : Bool), v48 = .bool x48_8 ∧ Aside0 (bulletinlaw14_MbxShows.j2 kq l0 a1 x5_2 x6_2 x48_8 = some r) ∧ Aside0 (kq ≤ k2) ∧ Aside0 (Kd.R k31 31 wc w.heap.size (fun _ => True) u5 x5_2) ∧ Aside0 (Below w.heap.size w wc))
       case first =>
        have H := HC9.out
        clear HC9
        by_cases c10 : 0 ≤ x6_2
        ·rw [if_pos c10] at H
         have c10b0 : decide (0 ≤ x6_2) = true := decide_eq_true c10
         clear c10
         (first | rw [c10b0] | (simp only [i64_w, i32_w]; rw [c10b0]) | skip)
         by_cases c11 : (((rd_T28 l0 x6_2).f0).size : Int) > 300
         ·rw [if_pos c11] at H
          have c11b0 : decide (300 < (((rd_T28 l0 x6_2).f0).size : Int)) = true := decide_eq_true c11
          have c11b1 : decide (300 < ((rd_T28 l0 x6_2).f0).size) = true := decide_eq_true (by omega)
          clear c11
          have H' := Aside0.mk H
          clear H
          have p281 : 0 ≤ (x6_2 : Int) := od
          have q281 : x6_2 < (l0.length : Int) := od
          obtain ⟨ad281, e281, hx281_0, hx281_1, hx281_2⟩ := at_T28 HR0.out x6_2 p281 q281
          cases e281
          replace hx281_0 := (HB.out.cell (World.block_lt_of_cell? w _ hx281_0)).trans hx281_0
          replace hx281_1 := (HB.out.cell (World.block_lt_of_cell? w _ hx281_1)).trans hx281_1
          replace hx281_2 := (HB.out.cell (World.block_lt_of_cell? w _ hx281_2)).trans hx281_2
          replace p281 := eq_true p281
          replace q281 := eq_true q281
          go_wp2
          go_meet
          case rel => exact ⟨_, (true), cl, H', ⟨by have := HJ2.out; have := HK2.out; first | omega | exact Nat.le_refl _⟩, ⟨by (with_reducible repeat (first | apply Kd.R_alloc | apply Kd.R_drewN | apply Kd.R_drew)); exact HO_5.out⟩, ⟨bw⟩⟩
         ·rw [if_neg c11] at H
          have c11b0 : decide (300 < (((rd_T28 l0 x6_2).f0).size : Int)) = false := decide_eq_false c11
          have c11b1 : decide (300 < ((rd_T28 l0 x6_2).f0).size) = false := decide_eq_false (by omega)
          clear c11
          by_cases c12 : (((rd_T28 l0 x6_2).f1.f0).size : Int) > 300
          ·rw [if_pos c12] at H
           have c12b0 : decide (300 < (((rd_T28 l0 x6_2).f1.f0).size : Int)) = true := decide_eq_true c12
           have c12b1 : decide (300 < ((rd_T28 l0 x6_2).f1.f0).size) = true := decide_eq_true (by omega)
           clear c12
           have H' := Aside0.mk H
           clear H
           have p281 : 0 ≤ (x6_2 : Int) := od
           have q281 : x6_2 < (l0.length : Int) := od
           obtain ⟨ad281, e281, hx281_0, hx281_1, hx281_2⟩ := at_T28 HR0.out x6_2 p281 q281
           cases e281
           replace hx281_0 := (HB.out.cell (World.block_lt_of_cell? w _ hx281_0)).trans hx281_0
           replace hx281_1 := (HB.out.cell (World.block_lt_of_cell? w _ hx281_1)).trans hx281_1
           replace hx281_2 := (HB.out.cell (World.block_lt_of_cell? w _ hx281_2)).trans hx281_2
           replace p281 := eq_true p281
           replace q281 := eq_true q281
           have p282 : 0 ≤ (x6_2 : Int) := od
           have q282 : x6_2 < (l0.length : Int) := od
           obtain ⟨ad282, e282, hx282_0, hx282_1, hx282_2⟩ := at_T28 HR0.out x6_2 p282 q282
           obtain rfl : ad281 = ad282 := (by injection e282)
           replace hx282_0 := (HB.out.cell (World.block_lt_of_cell? w _ hx282_0)).trans hx282_0
           replace hx282_1 := (HB.out.cell (World.block_lt_of_cell? w _ hx282_1)).trans hx282_1
           replace hx282_2 := (HB.out.cell (World.block_lt_of_cell? w _ hx282_2)).trans hx282_2
           replace p282 := eq_true p282
           replace q282 := eq_true q282
           go_wp2
           go_meet
           case rel => exact ⟨_, (true), cl, H', ⟨by have := HJ2.out; have := HK2.out; first | omega | exact Nat.le_refl _⟩, ⟨by (with_reducible repeat (first | apply Kd.R_alloc | apply Kd.R_drewN | apply Kd.R_drew)); exact HO_5.out⟩, ⟨bw⟩⟩
          ·rw [if_neg c12] at H
           have c12b0 : decide (300 < (((rd_T28 l0 x6_2).f1.f0).size : Int)) = false := decide_eq_false c12
           have c12b1 : decide (300 < ((rd_T28 l0 x6_2).f1.f0).size) = false := decide_eq_false (by omega)
           clear c12
           have H' := Aside0.mk H
           clear H
           have p281 : 0 ≤ (x6_2 : Int) := od
           have q281 : x6_2 < (l0.length : Int) := od
           obtain ⟨ad281, e281, hx281_0, hx281_1, hx281_2⟩ := at_T28 HR0.out x6_2 p281 q281
           cases e281
           replace hx281_0 := (HB.out.cell (World.block_lt_of_cell? w _ hx281_0)).trans hx281_0
           replace hx281_1 := (HB.out.cell (World.block_lt_of_cell? w _ hx281_1)).trans hx281_1
           replace hx281_2 := (HB.out.cell (World.block_lt_of_cell? w _ hx281_2)).trans hx281_2
           replace p281 := eq_true p281
           replace q281 := eq_true q281
           have p282 : 0 ≤ (x6_2 : Int) := od
           have q282 : x6_2 < (l0.length : Int) := od
           obtain ⟨ad282, e282, hx282_0, hx282_1, hx282_2⟩ := at_T28 HR0.out x6_2 p282 q282
           obtain rfl : ad281 = ad282 := (by injection e282)
           replace hx282_0 := (HB.out.cell (World.block_lt_of_cell? w _ hx282_0)).trans hx282_0
           replace hx282_1 := (HB.out.cell (World.block_lt_of_cell? w _ hx282_1)).trans hx282_1
           replace hx282_2 := (HB.out.cell (World.block_lt_of_cell? w _ hx282_2)).trans hx282_2
           replace p282 := eq_true p282
           replace q282 := eq_true q282
           have p283 : 0 ≤ (x6_2 : Int) := od
           have q283 : x6_2 < (l0.length : Int) := od
           obtain ⟨ad283, e283, hx283_0, hx283_1, hx283_2⟩ := at_T28 HR0.out x6_2 p283 q283
           obtain rfl : ad281 = ad283 := (by injection e283)
           replace hx283_0 := (HB.out.cell (World.block_lt_of_cell? w _ hx283_0)).trans hx283_0
           replace hx283_1 := (HB.out.cell (World.block_lt_of_cell? w _ hx283_1)).trans hx283_1
           replace hx283_2 := (HB.out.cell (World.block_lt_of_cell? w _ hx283_2)).trans hx283_2
           replace p283 := eq_true p283
           replace q283 := eq_true q283
           go_wp2
           go_meet
           case rel => exact ⟨_, (decide ((((rd_T28 l0 x6_2).f1.f1).size : Int) > 300)), cl, H', ⟨by have := HJ2.out; have := HK2.out; first | omega | exact Nat.le_refl _⟩, ⟨by (with_reducible repeat (first | apply Kd.R_alloc | apply Kd.R_drewN | apply Kd.R_drew)); exact HO_5.out⟩, ⟨bw⟩⟩
        ·rw [if_neg c10] at H
         exact absurd H (by simp)
       case rest =>
        clear HC9
        try clear c1
        try clear p2
        try clear q2
        try clear hx2
        try clear c3
        try clear c4
        try clear c4b0
        try clear c4b1
        try clear c5
        try clear c8
        try clear c8b0
        try clear c9
        try clear c10
        try clear c10b0
        try clear c11
        try clear c11b0
        try clear c11b1
        try clear c12
        try clear c12b0
        try clear c12b1
        try clear hx281_0
        try clear hx281_1
        try clear hx281_2
        try clear hx282_0
        try clear hx282_1
        try clear hx282_2
        try clear hx283_0
        try clear hx283_1
        try clear hx283_2
        try clear p2
        try clear p281
        try clear p282
        try clear p283
        try clear q281
        try clear q282
        try clear q283
        obtain ⟨kq, x48_8, rfl, HA, HJ8, HO_5, HB⟩ := hcut
        cases kq with
        | zero => exact absurd HA.out (by simp [bulletinlaw14_MbxShows.j2])
        | succ kj8 =>
         have H := HA.out
         clear HA
         simp only [bulletinlaw14_MbxShows.j2] at H
         by_cases c13 : x48_8 = true
         ·subst c13
          have H1 : ((bulletinlaw14_works.f kj8).bind fun t284 => (some t284)) = some r := by rw [if_pos rfl] at H; exact H
          clear H
          have H := H1
          clear H1
          replace H := Option.bind_eq_some_iff.mp H
          obtain ⟨t284, A140, H⟩ := H
          replace H : (some t284) = some r := H
          have A14 := Aside0.mk A140
          clear A140
          obtain rfl := Option.some.inj H
          go_wp2_with (first | ((with_reducible refine gate_callee (f := 9) rfl ?_); refine goesL_ (some 49) rfl rfl Tryd.func9 (by kernel_rfl) rfl #[] rfl am ?_; (with_reducible refine (bulletinlaw14_works.calls (hG := by first | exact hG | exact Glob.below hG (by first | exact HB.out | (repeat (first | (with_reducible first | exact HB.out | apply below_alloc | apply pw_below_drewN | apply below_drew1) | exact HB.out))) | exact Glob.drawn hG (by repeat (first | exact Drawn0.refl _ | apply Drawn0.step))) kj8  t284 _ A14.out).mono ?_); rintro e w15 ⟨rfl, hb⟩; refine ⟨_, rfl, ?_⟩; have n0_ := Aside0.mk (Kd.R_below (by (with_reducible repeat (first | apply Kd.R_alloc | apply Kd.R_drewN | apply Kd.R_drew)); exact HO_5.out) hb); have n1_ := Aside0.mk (below_step bw hb); clear HO_5; clear HB; have HO_5 := n0_; have HB := n1_; clear n0_ n1_; (try clear hb); (try clear hb2); (try clear hk); (try clear hi)))
          go_ret
          exact ⟨by first | rfl | (simp [errW_none, errW_some] <;> rfl) | (simp [*, errW_none, errW_some] <;> rfl), bw⟩
         ·replace c13 := Bool.eq_false_iff.mpr c13
          subst c13
          have H1 : (if 0 ≤ x6_2 then (if x6_2 < (l0.length : Int) then ((bulletinlaw14_To.f ((rd_T28 l0 x6_2).f0) ((rd_T28 l0 x6_2).f1.f0) ((rd_T28 l0 x6_2).f1.f1)).bind fun bt286 => (if x5_2.length < 2932031007402 then ((some (x5_2 ++ [(⟨bt286.1, (⟨bt286.2.1, bt286.2.2⟩ : S29)⟩ : S31)] : List (S31))).bind fun y289 => (if x6_2 < (y289.length : Int) then ((mbx_Show.f kj8 ((rd_T31 y289 x6_2).f0) ((rd_T31 y289 x6_2).f1.f0) ((rd_T31 y289 x6_2).f1.f1)).bind fun t293 => ((bulletinref14_Show.f kj8 ((rd_T28 l0 x6_2).f0) ((rd_T28 l0 x6_2).f1.f0) ((rd_T28 l0 x6_2).f1.f1)).bind fun t295 => (if t293.toList = t295.toList then (bulletinlaw14_MbxShows.l0 kj8 l0 a1 y289 (wrap64 (x6_2 + 1))) else (some false)))) else (none))) else (none))) else (none)) else (none)) = some r := by rw [if_neg (show ¬ (false = true) by decide)] at H; exact H
          clear H
          have H := H1
          clear H1
          by_cases c16 : 0 ≤ x6_2
          ·rw [if_pos c16] at H
           have c16b0 : decide (0 ≤ x6_2) = true := decide_eq_true c16
           clear c16
           by_cases c17 : x6_2 < (l0.length : Int)
           ·rw [if_pos c17] at H
            have c17b0 : decide (x6_2 < (l0.length : Int)) = true := decide_eq_true c17
            clear c17
            replace H := Option.bind_eq_some_iff.mp H
            obtain ⟨⟨t286, t287, t288⟩, A180, H⟩ := H
            replace H : (if x5_2.length < 2932031007402 then ((some (x5_2 ++ [(⟨t286, (⟨t287, t288⟩ : S29)⟩ : S31)] : List (S31))).bind fun y289 => (if x6_2 < (y289.length : Int) then ((mbx_Show.f kj8 ((rd_T31 y289 x6_2).f0) ((rd_T31 y289 x6_2).f1.f0) ((rd_T31 y289 x6_2).f1.f1)).bind fun t293 => ((bulletinref14_Show.f kj8 ((rd_T28 l0 x6_2).f0) ((rd_T28 l0 x6_2).f1.f0) ((rd_T28 l0 x6_2).f1.f1)).bind fun t295 => (if t293.toList = t295.toList then (bulletinlaw14_MbxShows.l0 kj8 l0 a1 y289 (wrap64 (x6_2 + 1))) else (some false)))) else (none))) else (none)) = some r := H
            have A18 := Aside0.mk A180
            clear A180
            by_cases c19 : x5_2.length < 2932031007402
            ·rw [if_pos c19] at H
             have LMc19 := Aside0.mk c19
             clear c19
             obtain ⟨y289, hy289⟩ : ∃ y_ : List (S31), y_ = (x5_2 ++ [(⟨t286, (⟨t287, t288⟩ : S29)⟩ : S31)]) := ⟨_, rfl⟩
             replace H : (if x6_2 < (y289.length : Int) then ((mbx_Show.f kj8 ((rd_T31 y289 x6_2).f0) ((rd_T31 y289 x6_2).f1.f0) ((rd_T31 y289 x6_2).f1.f1)).bind fun t293 => ((bulletinref14_Show.f kj8 ((rd_T28 l0 x6_2).f0) ((rd_T28 l0 x6_2).f1.f0) ((rd_T28 l0 x6_2).f1.f1)).bind fun t295 => (if t293.toList = t295.toList then (bulletinlaw14_MbxShows.l0 kj8 l0 a1 y289 (wrap64 (x6_2 + 1))) else (some false)))) else (none)) = some r := by first | (rw [hy289]; with_reducible exact H) | (have H2_ := (Option.bind_some _ _).symm.trans H; rw [hy289]; with_reducible exact H2_) | (have H2_ := (Option.bind_some _ _).symm.trans H; with_reducible exact H2_) | with_reducible exact H | (rw [hy289]; exact H) | exact H
             have Ny289 := Aside0.mk hy289
             clear hy289
             by_cases c20 : x6_2 < (y289.length : Int)
             ·rw [if_pos c20] at H
              have c20b0 : decide (x6_2 < (y289.length : Int)) = true := decide_eq_true c20
              clear c20
              replace H := Option.bind_eq_some_iff.mp H
              obtain ⟨t293, A210, H⟩ := H
              replace H : ((bulletinref14_Show.f kj8 ((rd_T28 l0 x6_2).f0) ((rd_T28 l0 x6_2).f1.f0) ((rd_T28 l0 x6_2).f1.f1)).bind fun t295 => (if t293.toList = t295.toList then (bulletinlaw14_MbxShows.l0 kj8 l0 a1 y289 (wrap64 (x6_2 + 1))) else (some false))) = some r := H
              have A21 := Aside0.mk A210
              clear A210
              replace H := Option.bind_eq_some_iff.mp H
              obtain ⟨t295, A220, H⟩ := H
              replace H : (if t293.toList = t295.toList then (bulletinlaw14_MbxShows.l0 kj8 l0 a1 y289 (wrap64 (x6_2 + 1))) else (some false)) = some r := H
              have A22 := Aside0.mk A220
              clear A220
              by_cases c23 : t293.toList = t295.toList
              ·rw [if_pos c23] at H
               have c23b0 : (t293.toList == t295.toList) = true := beq_iff_eq.mpr c23
               have c23b1 : (t293.toList != t295.toList) = false := bne_eq_false_iff_eq.mpr c23
               clear c23
               have H' := Aside0.mk H
               clear H
               have p285 : 0 ≤ (x6_2 : Int) := od
               have q285 : x6_2 < (l0.length : Int) := od
               obtain ⟨ad285, e285, hx285_0, hx285_1, hx285_2⟩ := at_T28 HR0.out x6_2 p285 q285
               cases e285
               replace hx285_0 := (HB.out.cell (World.block_lt_of_cell? w _ hx285_0)).trans hx285_0
               replace hx285_1 := (HB.out.cell (World.block_lt_of_cell? w _ hx285_1)).trans hx285_1
               replace hx285_2 := (HB.out.cell (World.block_lt_of_cell? w _ hx285_2)).trans hx285_2
               replace p285 := eq_true p285
               replace q285 := eq_true q285
               try go_wp2_with (first | ((with_reducible refine gate_callee (f := 10) rfl ?_); refine goesL_ (some 55) rfl rfl Tryd.func10 (by kernel_rfl) rfl #[.agg #[.string ((rd_T28 l0 x6_2).f0), .string ((rd_T28 l0 x6_2).f1.f0), .string ((rd_T28 l0 x6_2).f1.f1)]] rfl am ?_; (with_reducible refine (bulletinlaw14_To.calls ((rd_T28 l0 x6_2).f0) ((rd_T28 l0 x6_2).f1.f0) ((rd_T28 l0 x6_2).f1.f1) t286 t287 t288 _ A18.out).mono ?_); rintro e w24 ⟨rfl, hb⟩; refine ⟨_, rfl, ?_⟩; have n0_ := Aside0.mk (Kd.R_below (by (with_reducible repeat (first | apply Kd.R_alloc | apply Kd.R_drewN | apply Kd.R_drew)); exact HO_5.out) hb); have n1_ := Aside0.mk (below_step bw hb); clear HO_5; clear HB; have HO_5 := n0_; have HB := n1_; clear n0_ n1_; (try clear hb); (try clear hb2); (try clear hk); (try clear hi)) | ((with_reducible refine gate_builtin (b := .append) (xs := #[.tmp 50, .tmp 56]) rfl ?_); (try (refine gate_guard (by rfl) ?_; dsimp only)); at_builtin; refine Kd.R_append k31 (w0 := w) w.heap.size rfl (.tmp 50) (.tmp 56) 24 31 (.agg #[(.string ⟨#[]⟩), (.string ⟨#[]⟩), (.string ⟨#[]⟩)]) 48 rfl Tryd.underlying24 info31 rfl (by decide) (by omega) u5 x5_2 (⟨t286, (⟨t287, t288⟩ : S29)⟩ : S31) [.string t286, .string t287, .string t288] (fun _ => True) (fun _ => False) rfl rfl ?aP (fun _ hk => hk.elim) ?aF ?aO ?aB ?aS ?aL ?_; (case aP => exact k31_mkM _ _ _ (⟨t286, (⟨t287, t288⟩ : S29)⟩ : S31)); (case aB => exact bw); (case aF => exact (fun _ _ => trivial)); (case aO => exact (by (with_reducible repeat (first | apply Kd.R_alloc | apply Kd.R_drewN | apply Kd.R_drew)); exact HO_5.out)); (case aS => exact (below_size bw)); (case aL => have := LMc19.out; omega); intro v290 w25 ho hb hg hat; rw [← Ny289.out] at ho; have n0_ := Aside0.mk (hb); have n1_ := Aside0.mk (ho); clear HB; clear HO_5; have HB := n0_; have HO291 := n1_; clear n0_ n1_; clear ho hb hg hat))
               have n0_ := Aside0.mk (Kd.R_drew HO291.out)
               have n1_ := Aside0.mk (below_drew1 HB.out)
               clear HO291
               clear HB
               have HO291 := n0_
               have HB := n1_
               clear n0_ n1_
               obtain ⟨Ao27, co27, eo27⟩ := Kd.R_slice HO291.out
               (first | subst eo27 | (injection eo27 with f1_ f2_ f3_; have f4_ := f1_.symm; have f5_ := f3_.symm; clear f1_ f2_ f3_; subst f4_; subst f5_))
               have p292 : 0 ≤ (x6_2 : Int) := od
               have q292 : x6_2 < (y289.length : Int) := od
               obtain ⟨ad292, e292, hx292_0, hx292_1, hx292_2⟩ := at_T31 (Kd.R_reads' HO291.out).2.2 x6_2 p292 q292
               cases e292
               replace p292 := eq_true p292
               replace q292 := eq_true q292
               have p294 : 0 ≤ (x6_2 : Int) := od
               have q294 : x6_2 < (l0.length : Int) := od
               obtain ⟨ad294, e294, hx294_0, hx294_1, hx294_2⟩ := at_T28 HR0.out x6_2 p294 q294
               have hw294_2 := hx294_2
               have hw294_1 := hx294_1
               have hw294_0 := hx294_0
               obtain rfl : ad285 = ad294 := (by injection e294)
               replace hx294_0 := (HB.out.cell (World.block_lt_of_cell? w _ hx294_0)).trans hx294_0
               replace hx294_1 := (HB.out.cell (World.block_lt_of_cell? w _ hx294_1)).trans hx294_1
               replace hx294_2 := (HB.out.cell (World.block_lt_of_cell? w _ hx294_2)).trans hx294_2
               replace p294 := eq_true p294
               replace q294 := eq_true q294
               refine start_ (n := 11) (S := fun w' => w'.cell? (ad292.add ((x6_2).toNat * 3)) = some (.string ((rd_T31 y289 x6_2).f0)) ∧ w'.cell? ⟨(ad292.add ((x6_2).toNat * 3)).block, (ad292.add ((x6_2).toNat * 3)).off + 1, none⟩ = some (.string ((rd_T31 y289 x6_2).f1.f0)) ∧ w'.cell? ⟨(ad292.add ((x6_2).toNat * 3)).block, (ad292.add ((x6_2).toNat * 3)).off + 2, none⟩ = some (.string ((rd_T31 y289 x6_2).f1.f1)) ∧ w'.cell? (ad285.add ((x6_2).toNat * 3)) = some (.string ((rd_T28 l0 x6_2).f0)) ∧ w'.cell? ⟨(ad285.add ((x6_2).toNat * 3)).block, (ad285.add ((x6_2).toNat * 3)).off + 1, none⟩ = some (.string ((rd_T28 l0 x6_2).f1.f0)) ∧ w'.cell? ⟨(ad285.add ((x6_2).toNat * 3)).block, (ad285.add ((x6_2).toNat * 3)).off + 2, none⟩ = some (.string ((rd_T28 l0 x6_2).f1.f1))) (ds := []) #[false, false, false, false, false, false, false, false, false, false, false] (by kernel_rfl) rfl rfl ⟨hx292_0, hx292_1, hx292_2, ((HB.out.cell (World.block_lt_of_cell? w _ hw294_0)).trans hw294_0), ((HB.out.cell (World.block_lt_of_cell? w _ hw294_1)).trans hw294_1), ((HB.out.cell (World.block_lt_of_cell? w _ hw294_2)).trans hw294_2)⟩ (fun hHeld => ?_); refine with_tabW bulletinlaw14_MbxShows.tab10 bulletinlaw14_MbxShows.bits10 (fun HT_ HW_ => ?_)
               generalize w25.drew = w26 at HO291 HB hx292_0 hx292_1 hx292_2 hx294_0 hx294_1 hx294_2 hHeld ⊢
               refine pure_ (i := 0) (N := some 58) (v := ?_) (a' := ?_) (bitsL 11 1) rfl rfl (any_of HT_.out (by kernel_rfl)) (fun _ _ _ h => h) (Or.inl ⟨by rfl, ?_⟩) ?_ ?_
               rotate_left
               ·intro w'
                go_simp
                with_reducible rfl
               rotate_left
               ·simp only [Act.put, List.setIfInBounds_toArray, List.set_cons_zero, List.set_cons_succ, i64_w, i32_w]
                rfl
               refine pure_ (i := 1) (N := some 59) (v := ?_) (a' := ?_) (bitsL 11 3) rfl rfl (any_of HT_.out (by kernel_rfl)) (fun _ _ _ h => h) (Or.inl ⟨by rfl, ?_⟩) ?_ ?_
               rotate_left
               ·intro w'
                go_simp
                with_reducible rfl
               rotate_left
               ·simp only [Act.put, List.setIfInBounds_toArray, List.set_cons_zero, List.set_cons_succ, i64_w, i32_w]
                rfl
               refine pure_ (i := 2) (N := some 60) (v := ?_) (a' := ?_) (bitsL 11 7) rfl rfl (any_of HT_.out (by kernel_rfl)) (fun _ _ _ h => h) (Or.inl ⟨by rfl, ?_⟩) ?_ ?_
               rotate_left
               ·intro w'
                go_simp
                with_reducible rfl
               rotate_left
               ·simp only [Act.put, List.setIfInBounds_toArray, List.set_cons_zero, List.set_cons_succ, i64_w, i32_w]
                rfl
               refine pure_ (i := 5) (N := some 63) (v := ?_) (a' := ?_) (bitsL 11 39) rfl rfl (any_of HT_.out (by kernel_rfl)) (fun _ _ _ h => h) (Or.inl ⟨by rfl, ?_⟩) ?_ ?_
               rotate_left
               ·intro w'
                go_simp
                with_reducible rfl
               rotate_left
               ·simp only [Act.put, List.setIfInBounds_toArray, List.set_cons_zero, List.set_cons_succ, i64_w, i32_w]
                rfl
               refine pure_ (i := 6) (N := some 64) (v := ?_) (a' := ?_) (bitsL 11 103) rfl rfl (any_of HT_.out (by kernel_rfl)) (fun _ _ _ h => h) (Or.inl ⟨by rfl, ?_⟩) ?_ ?_
               rotate_left
               ·intro w'
                go_simp
                with_reducible rfl
               rotate_left
               ·simp only [Act.put, List.setIfInBounds_toArray, List.set_cons_zero, List.set_cons_succ, i64_w, i32_w]
                rfl
               refine pure_ (i := 7) (N := some 65) (v := ?_) (a' := ?_) (bitsL 11 231) rfl rfl (any_of HT_.out (by kernel_rfl)) (fun _ _ _ h => h) (Or.inl ⟨by rfl, ?_⟩) ?_ ?_
               rotate_left
               ·intro w'
                go_simp
                with_reducible rfl
               rotate_left
               ·simp only [Act.put, List.setIfInBounds_toArray, List.set_cons_zero, List.set_cons_succ, i64_w, i32_w]
                rfl
               refine take_ (i := 3) (N := some 61) (v := ?_) (a' := ?_) (bitsL 11 239) rfl rfl (take_ofW HT_.out HW_.out (by kernel_rfl)) (fun _ _ _ h => h) (Or.inl ⟨by rfl, ?_⟩) hHeld ?_ ?_
               rotate_left
               ·rintro w' ⟨s0, s1, s2, s3, s4, s5⟩
                go_simp
                with_reducible rfl
               rotate_left
               ·simp only [Act.put, List.setIfInBounds_toArray, List.set_cons_zero, List.set_cons_succ, i64_w, i32_w]
                rfl
               refine take_ (i := 8) (N := some 66) (v := ?_) (a' := ?_) (bitsL 11 495) rfl rfl (take_ofW HT_.out HW_.out (by kernel_rfl)) (fun _ _ _ h => h) (Or.inl ⟨by rfl, ?_⟩) hHeld ?_ ?_
               rotate_left
               ·rintro w' ⟨s0, s1, s2, s3, s4, s5⟩
                go_simp
                with_reducible rfl
               rotate_left
               ·simp only [Act.put, List.setIfInBounds_toArray, List.set_cons_zero, List.set_cons_succ, i64_w, i32_w]
                rfl
               refine one_ (i := 4) (N := some 62) (bitsL 11 511) rfl rfl (one_of HT_.out (by kernel_rfl)) (by decide) (fun K hK => ?_)
               refine goes_ Tryd.func11 (by kernel_rfl) rfl #[.agg #[.string ((rd_T31 y289 x6_2).f0), .string ((rd_T31 y289 x6_2).f1.f0), .string ((rd_T31 y289 x6_2).f1.f1)]] (by rfl) rfl rfl am ?_
               with_reducible refine (mbx_Show.calls kj8 ((rd_T31 y289 x6_2).f0) ((rd_T31 y289 x6_2).f1.f0) ((rd_T31 y289 x6_2).f1.f1) t293 _ A21.out).mono ?_
               rintro e w28 ⟨rfl, hb⟩
               have HS0_ := (hb.cell (World.block_lt_of_cell? _ _ (hHeld.1))).trans (hHeld.1)
               have HS1_ := (hb.cell (World.block_lt_of_cell? _ _ (hHeld.2.1))).trans (hHeld.2.1)
               have HS2_ := (hb.cell (World.block_lt_of_cell? _ _ (hHeld.2.2.1))).trans (hHeld.2.2.1)
               refine ⟨_, rfl, ?_⟩
               have n0_ := Aside0.mk (Kd.R_below (by (with_reducible repeat (first | apply Kd.R_alloc | apply Kd.R_drewN | apply Kd.R_drew)); exact HO291.out) hb)
               have n1_ := Aside0.mk (below_step bw hb)
               clear HO291
               clear HB
               have HO291 := n0_
               have HB := n1_
               clear n0_ n1_
               (try clear hb)
               (try clear hb2)
               (try clear hk)
               (try clear hi)
               refine hK.out _ _ ⟨HS0_, HS1_, HS2_, ((HB.out.cell (World.block_lt_of_cell? w _ hw294_0)).trans hw294_0), ((HB.out.cell (World.block_lt_of_cell? w _ hw294_1)).trans hw294_1), ((HB.out.cell (World.block_lt_of_cell? w _ hw294_2)).trans hw294_2)⟩ (fun hHeld => ?_)
               clear hK K
               refine norm_ (a' := ?_) ?_ ?_
               rotate_left
               ·show Act.put _ (some 62) _ = _
                simp only [Act.put, List.setIfInBounds_toArray, List.set_cons_zero, List.set_cons_succ, i64_w, i32_w]
                rfl
               refine one_ (i := 9) (N := some 67) (bitsL 11 1023) rfl rfl (one_of HT_.out (by kernel_rfl)) (by decide) (fun K hK => ?_)
               refine goes_ Tryd.func12 (by kernel_rfl) rfl #[.agg #[.string ((rd_T28 l0 x6_2).f0), .string ((rd_T28 l0 x6_2).f1.f0), .string ((rd_T28 l0 x6_2).f1.f1)]] (by rfl) rfl rfl am ?_
               with_reducible refine (bulletinref14_Show.calls kj8 ((rd_T28 l0 x6_2).f0) ((rd_T28 l0 x6_2).f1.f0) ((rd_T28 l0 x6_2).f1.f1) t295 _ A22.out).mono ?_
               rintro e w29 ⟨rfl, hb⟩
               have HS0_ := (hb.cell (World.block_lt_of_cell? _ _ (hHeld.1))).trans (hHeld.1)
               have HS1_ := (hb.cell (World.block_lt_of_cell? _ _ (hHeld.2.1))).trans (hHeld.2.1)
               have HS2_ := (hb.cell (World.block_lt_of_cell? _ _ (hHeld.2.2.1))).trans (hHeld.2.2.1)
               refine ⟨_, rfl, ?_⟩
               have n0_ := Aside0.mk (Kd.R_below (by (with_reducible repeat (first | apply Kd.R_alloc | apply Kd.R_drewN | apply Kd.R_drew)); exact HO291.out) hb)
               have n1_ := Aside0.mk (below_step bw hb)
               clear HO291
               clear HB
               have HO291 := n0_
               have HB := n1_
               clear n0_ n1_
               (try clear hb)
               (try clear hb2)
               (try clear hk)
               (try clear hi)
               refine hK.out _ _ ⟨HS0_, HS1_, HS2_, ((HB.out.cell (World.block_lt_of_cell? w _ hw294_0)).trans hw294_0), ((HB.out.cell (World.block_lt_of_cell? w _ hw294_1)).trans hw294_1), ((HB.out.cell (World.block_lt_of_cell? w _ hw294_2)).trans hw294_2)⟩ (fun hHeld => ?_)
               clear hK K
               refine norm_ (a' := ?_) ?_ ?_
               rotate_left
               ·show Act.put _ (some 67) _ = _
                simp only [Act.put, List.setIfInBounds_toArray, List.set_cons_zero, List.set_cons_succ, i64_w, i32_w]
                rfl
               refine pure_ (i := 10) (N := some 68) (v := ?_) (a' := ?_) (bitsL 11 2047) rfl rfl (any_of HT_.out (by kernel_rfl)) (fun _ _ _ h => h) (Or.inl ⟨by rfl, ?_⟩) ?_ ?_
               rotate_left
               ·intro w'
                go_simp
                with_reducible rfl
               rotate_left
               ·simp only [Act.put, List.setIfInBounds_toArray, List.set_cons_zero, List.set_cons_succ, i64_w, i32_w]
                rfl
               refine done_ (done_of HT_.out (by kernel_rfl)) ?_
               try go_wp2
               go_roundg kj8
               case measure => have := HJ2.out; have := HK2.out; have := HJ8.out; omega
               case rel => exact ⟨(y289), (wrap64 (x6_2 + 1)), cl, H', ⟨by have := HJ2.out; have := HK2.out; have := HJ8.out; omega⟩, ⟨by (with_reducible repeat (first | apply Kd.R_alloc | apply Kd.R_drewN | apply Kd.R_drew)); exact HO291.out⟩, ⟨bw⟩⟩
              ·rw [if_neg c23] at H
               have c23b0 : (t293.toList == t295.toList) = false := beq_eq_false_iff_ne.mpr c23
               have c23b1 : (t293.toList != t295.toList) = true := bne_iff_ne.mpr c23
               obtain rfl := Option.some.inj H
               have p285 : 0 ≤ (x6_2 : Int) := od
               have q285 : x6_2 < (l0.length : Int) := od
               obtain ⟨ad285, e285, hx285_0, hx285_1, hx285_2⟩ := at_T28 HR0.out x6_2 p285 q285
               cases e285
               replace hx285_0 := (HB.out.cell (World.block_lt_of_cell? w _ hx285_0)).trans hx285_0
               replace hx285_1 := (HB.out.cell (World.block_lt_of_cell? w _ hx285_1)).trans hx285_1
               replace hx285_2 := (HB.out.cell (World.block_lt_of_cell? w _ hx285_2)).trans hx285_2
               replace p285 := eq_true p285
               replace q285 := eq_true q285
               try go_wp2_with (first | ((with_reducible refine gate_callee (f := 10) rfl ?_); refine goesL_ (some 55) rfl rfl Tryd.func10 (by kernel_rfl) rfl #[.agg #[.string ((rd_T28 l0 x6_2).f0), .string ((rd_T28 l0 x6_2).f1.f0), .string ((rd_T28 l0 x6_2).f1.f1)]] rfl am ?_; (with_reducible refine (bulletinlaw14_To.calls ((rd_T28 l0 x6_2).f0) ((rd_T28 l0 x6_2).f1.f0) ((rd_T28 l0 x6_2).f1.f1) t286 t287 t288 _ A18.out).mono ?_); rintro e w30 ⟨rfl, hb⟩; refine ⟨_, rfl, ?_⟩; have n0_ := Aside0.mk (Kd.R_below (by (with_reducible repeat (first | apply Kd.R_alloc | apply Kd.R_drewN | apply Kd.R_drew)); exact HO_5.out) hb); have n1_ := Aside0.mk (below_step bw hb); clear HO_5; clear HB; have HO_5 := n0_; have HB := n1_; clear n0_ n1_; (try clear hb); (try clear hb2); (try clear hk); (try clear hi)) | ((with_reducible refine gate_builtin (b := .append) (xs := #[.tmp 50, .tmp 56]) rfl ?_); (try (refine gate_guard (by rfl) ?_; dsimp only)); at_builtin; refine Kd.R_append k31 (w0 := w) w.heap.size rfl (.tmp 50) (.tmp 56) 24 31 (.agg #[(.string ⟨#[]⟩), (.string ⟨#[]⟩), (.string ⟨#[]⟩)]) 48 rfl Tryd.underlying24 info31 rfl (by decide) (by omega) u5 x5_2 (⟨t286, (⟨t287, t288⟩ : S29)⟩ : S31) [.string t286, .string t287, .string t288] (fun _ => True) (fun _ => False) rfl rfl ?aP (fun _ hk => hk.elim) ?aF ?aO ?aB ?aS ?aL ?_; (case aP => exact k31_mkM _ _ _ (⟨t286, (⟨t287, t288⟩ : S29)⟩ : S31)); (case aB => exact bw); (case aF => exact (fun _ _ => trivial)); (case aO => exact (by (with_reducible repeat (first | apply Kd.R_alloc | apply Kd.R_drewN | apply Kd.R_drew)); exact HO_5.out)); (case aS => exact (below_size bw)); (case aL => have := LMc19.out; omega); intro v290 w31 ho hb hg hat; rw [← Ny289.out] at ho; have n0_ := Aside0.mk (hb); have n1_ := Aside0.mk (ho); clear HB; clear HO_5; have HB := n0_; have HO291 := n1_; clear n0_ n1_; clear ho hb hg hat))
               have n0_ := Aside0.mk (Kd.R_drew HO291.out)
               have n1_ := Aside0.mk (below_drew1 HB.out)
               clear HO291
               clear HB
               have HO291 := n0_
               have HB := n1_
               clear n0_ n1_
               obtain ⟨Ao33, co33, eo33⟩ := Kd.R_slice HO291.out
               (first | subst eo33 | (injection eo33 with f1_ f2_ f3_; have f4_ := f1_.symm; have f5_ := f3_.symm; clear f1_ f2_ f3_; subst f4_; subst f5_))
               have p292 : 0 ≤ (x6_2 : Int) := od
               have q292 : x6_2 < (y289.length : Int) := od
               obtain ⟨ad292, e292, hx292_0, hx292_1, hx292_2⟩ := at_T31 (Kd.R_reads' HO291.out).2.2 x6_2 p292 q292
               cases e292
               replace p292 := eq_true p292
               replace q292 := eq_true q292
               have p294 : 0 ≤ (x6_2 : Int) := od
               have q294 : x6_2 < (l0.length : Int) := od
               obtain ⟨ad294, e294, hx294_0, hx294_1, hx294_2⟩ := at_T28 HR0.out x6_2 p294 q294
               have hw294_2 := hx294_2
               have hw294_1 := hx294_1
               have hw294_0 := hx294_0
               obtain rfl : ad285 = ad294 := (by injection e294)
               replace hx294_0 := (HB.out.cell (World.block_lt_of_cell? w _ hx294_0)).trans hx294_0
               replace hx294_1 := (HB.out.cell (World.block_lt_of_cell? w _ hx294_1)).trans hx294_1
               replace hx294_2 := (HB.out.cell (World.block_lt_of_cell? w _ hx294_2)).trans hx294_2
               replace p294 := eq_true p294
               replace q294 := eq_true q294
               refine start_ (n := 11) (S := fun w' => w'.cell? (ad292.add ((x6_2).toNat * 3)) = some (.string ((rd_T31 y289 x6_2).f0)) ∧ w'.cell? ⟨(ad292.add ((x6_2).toNat * 3)).block, (ad292.add ((x6_2).toNat * 3)).off + 1, none⟩ = some (.string ((rd_T31 y289 x6_2).f1.f0)) ∧ w'.cell? ⟨(ad292.add ((x6_2).toNat * 3)).block, (ad292.add ((x6_2).toNat * 3)).off + 2, none⟩ = some (.string ((rd_T31 y289 x6_2).f1.f1)) ∧ w'.cell? (ad285.add ((x6_2).toNat * 3)) = some (.string ((rd_T28 l0 x6_2).f0)) ∧ w'.cell? ⟨(ad285.add ((x6_2).toNat * 3)).block, (ad285.add ((x6_2).toNat * 3)).off + 1, none⟩ = some (.string ((rd_T28 l0 x6_2).f1.f0)) ∧ w'.cell? ⟨(ad285.add ((x6_2).toNat * 3)).block, (ad285.add ((x6_2).toNat * 3)).off + 2, none⟩ = some (.string ((rd_T28 l0 x6_2).f1.f1))) (ds := []) #[false, false, false, false, false, false, false, false, false, false, false] (by kernel_rfl) rfl rfl ⟨hx292_0, hx292_1, hx292_2, ((HB.out.cell (World.block_lt_of_cell? w _ hw294_0)).trans hw294_0), ((HB.out.cell (World.block_lt_of_cell? w _ hw294_1)).trans hw294_1), ((HB.out.cell (World.block_lt_of_cell? w _ hw294_2)).trans hw294_2)⟩ (fun hHeld => ?_); refine with_tabW bulletinlaw14_MbxShows.tab10 bulletinlaw14_MbxShows.bits10 (fun HT_ HW_ => ?_)
               generalize w31.drew = w32 at HO291 HB hx292_0 hx292_1 hx292_2 hx294_0 hx294_1 hx294_2 hHeld ⊢
               refine pure_ (i := 0) (N := some 58) (v := ?_) (a' := ?_) (bitsL 11 1) rfl rfl (any_of HT_.out (by kernel_rfl)) (fun _ _ _ h => h) (Or.inl ⟨by rfl, ?_⟩) ?_ ?_
               rotate_left
               ·intro w'
                go_simp
                with_reducible rfl
               rotate_left
               ·simp only [Act.put, List.setIfInBounds_toArray, List.set_cons_zero, List.set_cons_succ, i64_w, i32_w]
                rfl
               refine pure_ (i := 1) (N := some 59) (v := ?_) (a' := ?_) (bitsL 11 3) rfl rfl (any_of HT_.out (by kernel_rfl)) (fun _ _ _ h => h) (Or.inl ⟨by rfl, ?_⟩) ?_ ?_
               rotate_left
               ·intro w'
                go_simp
                with_reducible rfl
               rotate_left
               ·simp only [Act.put, List.setIfInBounds_toArray, List.set_cons_zero, List.set_cons_succ, i64_w, i32_w]
                rfl
               refine pure_ (i := 2) (N := some 60) (v := ?_) (a' := ?_) (bitsL 11 7) rfl rfl (any_of HT_.out (by kernel_rfl)) (fun _ _ _ h => h) (Or.inl ⟨by rfl, ?_⟩) ?_ ?_
               rotate_left
               ·intro w'
                go_simp
                with_reducible rfl
               rotate_left
               ·simp only [Act.put, List.setIfInBounds_toArray, List.set_cons_zero, List.set_cons_succ, i64_w, i32_w]
                rfl
               refine pure_ (i := 5) (N := some 63) (v := ?_) (a' := ?_) (bitsL 11 39) rfl rfl (any_of HT_.out (by kernel_rfl)) (fun _ _ _ h => h) (Or.inl ⟨by rfl, ?_⟩) ?_ ?_
               rotate_left
               ·intro w'
                go_simp
                with_reducible rfl
               rotate_left
               ·simp only [Act.put, List.setIfInBounds_toArray, List.set_cons_zero, List.set_cons_succ, i64_w, i32_w]
                rfl
               refine pure_ (i := 6) (N := some 64) (v := ?_) (a' := ?_) (bitsL 11 103) rfl rfl (any_of HT_.out (by kernel_rfl)) (fun _ _ _ h => h) (Or.inl ⟨by rfl, ?_⟩) ?_ ?_
               rotate_left
               ·intro w'
                go_simp
                with_reducible rfl
               rotate_left
               ·simp only [Act.put, List.setIfInBounds_toArray, List.set_cons_zero, List.set_cons_succ, i64_w, i32_w]
                rfl
               refine pure_ (i := 7) (N := some 65) (v := ?_) (a' := ?_) (bitsL 11 231) rfl rfl (any_of HT_.out (by kernel_rfl)) (fun _ _ _ h => h) (Or.inl ⟨by rfl, ?_⟩) ?_ ?_
               rotate_left
               ·intro w'
                go_simp
                with_reducible rfl
               rotate_left
               ·simp only [Act.put, List.setIfInBounds_toArray, List.set_cons_zero, List.set_cons_succ, i64_w, i32_w]
                rfl
               refine take_ (i := 3) (N := some 61) (v := ?_) (a' := ?_) (bitsL 11 239) rfl rfl (take_ofW HT_.out HW_.out (by kernel_rfl)) (fun _ _ _ h => h) (Or.inl ⟨by rfl, ?_⟩) hHeld ?_ ?_
               rotate_left
               ·rintro w' ⟨s0, s1, s2, s3, s4, s5⟩
                go_simp
                with_reducible rfl
               rotate_left
               ·simp only [Act.put, List.setIfInBounds_toArray, List.set_cons_zero, List.set_cons_succ, i64_w, i32_w]
                rfl
               refine take_ (i := 8) (N := some 66) (v := ?_) (a' := ?_) (bitsL 11 495) rfl rfl (take_ofW HT_.out HW_.out (by kernel_rfl)) (fun _ _ _ h => h) (Or.inl ⟨by rfl, ?_⟩) hHeld ?_ ?_
               rotate_left
               ·rintro w' ⟨s0, s1, s2, s3, s4, s5⟩
                go_simp
                with_reducible rfl
               rotate_left
               ·simp only [Act.put, List.setIfInBounds_toArray, List.set_cons_zero, List.set_cons_succ, i64_w, i32_w]
                rfl
               refine one_ (i := 4) (N := some 62) (bitsL 11 511) rfl rfl (one_of HT_.out (by kernel_rfl)) (by decide) (fun K hK => ?_)
               refine goes_ Tryd.func11 (by kernel_rfl) rfl #[.agg #[.string ((rd_T31 y289 x6_2).f0), .string ((rd_T31 y289 x6_2).f1.f0), .string ((rd_T31 y289 x6_2).f1.f1)]] (by rfl) rfl rfl am ?_
               with_reducible refine (mbx_Show.calls kj8 ((rd_T31 y289 x6_2).f0) ((rd_T31 y289 x6_2).f1.f0) ((rd_T31 y289 x6_2).f1.f1) t293 _ A21.out).mono ?_
               rintro e w34 ⟨rfl, hb⟩
               have HS0_ := (hb.cell (World.block_lt_of_cell? _ _ (hHeld.1))).trans (hHeld.1)
               have HS1_ := (hb.cell (World.block_lt_of_cell? _ _ (hHeld.2.1))).trans (hHeld.2.1)
               have HS2_ := (hb.cell (World.block_lt_of_cell? _ _ (hHeld.2.2.1))).trans (hHeld.2.2.1)
               refine ⟨_, rfl, ?_⟩
               have n0_ := Aside0.mk (Kd.R_below (by (with_reducible repeat (first | apply Kd.R_alloc | apply Kd.R_drewN | apply Kd.R_drew)); exact HO291.out) hb)
               have n1_ := Aside0.mk (below_step bw hb)
               clear HO291
               clear HB
               have HO291 := n0_
               have HB := n1_
               clear n0_ n1_
               (try clear hb)
               (try clear hb2)
               (try clear hk)
               (try clear hi)
               refine hK.out _ _ ⟨HS0_, HS1_, HS2_, ((HB.out.cell (World.block_lt_of_cell? w _ hw294_0)).trans hw294_0), ((HB.out.cell (World.block_lt_of_cell? w _ hw294_1)).trans hw294_1), ((HB.out.cell (World.block_lt_of_cell? w _ hw294_2)).trans hw294_2)⟩ (fun hHeld => ?_)
               clear hK K
               refine norm_ (a' := ?_) ?_ ?_
               rotate_left
               ·show Act.put _ (some 62) _ = _
                simp only [Act.put, List.setIfInBounds_toArray, List.set_cons_zero, List.set_cons_succ, i64_w, i32_w]
                rfl
               refine one_ (i := 9) (N := some 67) (bitsL 11 1023) rfl rfl (one_of HT_.out (by kernel_rfl)) (by decide) (fun K hK => ?_)
               refine goes_ Tryd.func12 (by kernel_rfl) rfl #[.agg #[.string ((rd_T28 l0 x6_2).f0), .string ((rd_T28 l0 x6_2).f1.f0), .string ((rd_T28 l0 x6_2).f1.f1)]] (by rfl) rfl rfl am ?_
               with_reducible refine (bulletinref14_Show.calls kj8 ((rd_T28 l0 x6_2).f0) ((rd_T28 l0 x6_2).f1.f0) ((rd_T28 l0 x6_2).f1.f1) t295 _ A22.out).mono ?_
               rintro e w35 ⟨rfl, hb⟩
               have HS0_ := (hb.cell (World.block_lt_of_cell? _ _ (hHeld.1))).trans (hHeld.1)
               have HS1_ := (hb.cell (World.block_lt_of_cell? _ _ (hHeld.2.1))).trans (hHeld.2.1)
               have HS2_ := (hb.cell (World.block_lt_of_cell? _ _ (hHeld.2.2.1))).trans (hHeld.2.2.1)
               refine ⟨_, rfl, ?_⟩
               have n0_ := Aside0.mk (Kd.R_below (by (with_reducible repeat (first | apply Kd.R_alloc | apply Kd.R_drewN | apply Kd.R_drew)); exact HO291.out) hb)
               have n1_ := Aside0.mk (below_step bw hb)
               clear HO291
               clear HB
               have HO291 := n0_
               have HB := n1_
               clear n0_ n1_
               (try clear hb)
               (try clear hb2)
               (try clear hk)
               (try clear hi)
               refine hK.out _ _ ⟨HS0_, HS1_, HS2_, ((HB.out.cell (World.block_lt_of_cell? w _ hw294_0)).trans hw294_0), ((HB.out.cell (World.block_lt_of_cell? w _ hw294_1)).trans hw294_1), ((HB.out.cell (World.block_lt_of_cell? w _ hw294_2)).trans hw294_2)⟩ (fun hHeld => ?_)
               clear hK K
               refine norm_ (a' := ?_) ?_ ?_
               rotate_left
               ·show Act.put _ (some 67) _ = _
                simp only [Act.put, List.setIfInBounds_toArray, List.set_cons_zero, List.set_cons_succ, i64_w, i32_w]
                rfl
               refine pure_ (i := 10) (N := some 68) (v := ?_) (a' := ?_) (bitsL 11 2047) rfl rfl (any_of HT_.out (by kernel_rfl)) (fun _ _ _ h => h) (Or.inl ⟨by rfl, ?_⟩) ?_ ?_
               rotate_left
               ·intro w'
                go_simp
                with_reducible rfl
               rotate_left
               ·simp only [Act.put, List.setIfInBounds_toArray, List.set_cons_zero, List.set_cons_succ, i64_w, i32_w]
                rfl
               refine done_ (done_of HT_.out (by kernel_rfl)) ?_
               try go_wp2
               go_ret
               exact ⟨by first | rfl | (simp [errW_none, errW_some] <;> rfl) | (simp [*, errW_none, errW_some] <;> rfl), bw⟩
             ·rw [if_neg c20] at H
              exact absurd H (by simp)
            ·rw [if_neg c19] at H
             exact absurd H (by simp)
           ·rw [if_neg c17] at H
            exact absurd H (by simp)
          ·rw [if_neg c16] at H
           exact absurd H (by simp)
      ·rw [if_neg c8] at H
       have c8b0 : decide (x6_2 < (l0.length : Int)) = false := decide_eq_false c8
       clear c8
       replace H := Option.bind_eq_some_iff.mp H
       obtain ⟨t296, A360, H⟩ := H
       replace H : ((bulletinref14_ShowAll.f k2 l0).bind fun t297 => (if t296.toList = t297.toList then ((mbx_Phrase.f a1).bind fun t298 => ((bulletinref14_Phrase.f k2 a1).bind fun t299 => (if t298.toList = t299.toList then ((bulletinlaw14_works.f k2).bind fun t300 => (some t300)) else (some false)))) else (some false))) = some r := H
       have A36 := Aside0.mk A360
       clear A360
       replace H := Option.bind_eq_some_iff.mp H
       obtain ⟨t297, A370, H⟩ := H
       replace H : (if t296.toList = t297.toList then ((mbx_Phrase.f a1).bind fun t298 => ((bulletinref14_Phrase.f k2 a1).bind fun t299 => (if t298.toList = t299.toList then ((bulletinlaw14_works.f k2).bind fun t300 => (some t300)) else (some false)))) else (some false)) = some r := H
       have A37 := Aside0.mk A370
       clear A370
       by_cases c38 : t296.toList = t297.toList
       ·rw [if_pos c38] at H
        have c38b0 : (t296.toList == t297.toList) = true := beq_iff_eq.mpr c38
        have c38b1 : (t296.toList != t297.toList) = false := bne_eq_false_iff_eq.mpr c38
        clear c38
        replace H := Option.bind_eq_some_iff.mp H
        obtain ⟨t298, A390, H⟩ := H
        replace H : ((bulletinref14_Phrase.f k2 a1).bind fun t299 => (if t298.toList = t299.toList then ((bulletinlaw14_works.f k2).bind fun t300 => (some t300)) else (some false))) = some r := H
        have A39 := Aside0.mk A390
        clear A390
        replace H := Option.bind_eq_some_iff.mp H
        obtain ⟨t299, A400, H⟩ := H
        replace H : (if t298.toList = t299.toList then ((bulletinlaw14_works.f k2).bind fun t300 => (some t300)) else (some false)) = some r := H
        have A40 := Aside0.mk A400
        clear A400
        by_cases c41 : t298.toList = t299.toList
        ·rw [if_pos c41] at H
         have c41b0 : (t298.toList == t299.toList) = true := beq_iff_eq.mpr c41
         have c41b1 : (t298.toList != t299.toList) = false := bne_eq_false_iff_eq.mpr c41
         clear c41
         replace H := Option.bind_eq_some_iff.mp H
         obtain ⟨t300, A420, H⟩ := H
         replace H : (some t300) = some r := H
         have A42 := Aside0.mk A420
         clear A420
         obtain rfl := Option.some.inj H
         obtain ⟨Ao43, co43, eo43⟩ := Kd.R_slice HO_5.out
         subst eo43
         go_wp2_with (first | ((with_reducible refine gate_callee (f := 13) rfl ?_); refine goesL_ (some 70) rfl rfl Tryd.func13 (by kernel_rfl) rfl #[.slice Ao43 x5_2.length co43] rfl am ?_; (with_reducible refine (mbx_ShowAll.calls k2 _ _ x5_2 t296 _ ?side1 ?side2 A36.out).mono ?_); (case side1 => repeat (first | exact (Kd.R_reads' HO_5.out).2.2 | (with_reducible refine Kd.C_alloc ?_ _) | (with_reducible refine Kd.C_drewN ?_ _) | (with_reducible refine Kd.C_drew ?_))); (case side2 => exact (Kd.R_reads' HO_5.out).2.1); rintro e w44 ⟨rfl, hb⟩; refine ⟨_, rfl, ?_⟩; have n0_ := Aside0.mk (Kd.R_below (by (with_reducible repeat (first | apply Kd.R_alloc | apply Kd.R_drewN | apply Kd.R_drew)); exact HO_5.out) hb); have n1_ := Aside0.mk (below_step bw hb); clear HO_5; clear HB; have HO_5 := n0_; have HB := n1_; clear n0_ n1_; (try clear hb); (try clear hb2); (try clear hk); (try clear hi)) | ((with_reducible refine gate_callee (f := 14) rfl ?_); refine goesL_ (some 72) rfl rfl Tryd.func14 (by kernel_rfl) rfl #[.slice A0 l0.length c0] rfl am ?_; (with_reducible refine (bulletinref14_ShowAll.calls k2 _ _ l0 t297 _ ?side1 ?side2 A37.out).mono ?_); (case side1 => repeat (first | exact (Kd.C_below HR0.out HB.out) | (with_reducible refine Kd.C_alloc ?_ _) | (with_reducible refine Kd.C_drewN ?_ _) | (with_reducible refine Kd.C_drew ?_))); (case side2 => exact HC0.out); rintro e w45 ⟨rfl, hb⟩; refine ⟨_, rfl, ?_⟩; have n0_ := Aside0.mk (Kd.R_below (by (with_reducible repeat (first | apply Kd.R_alloc | apply Kd.R_drewN | apply Kd.R_drew)); exact HO_5.out) hb); have n1_ := Aside0.mk (below_step bw hb); clear HO_5; clear HB; have HO_5 := n0_; have HB := n1_; clear n0_ n1_; (try clear hb); (try clear hb2); (try clear hk); (try clear hi)) | (go_at_call 15; (with_reducible refine (mbx_Phrase.calls a1 t298 _ A39.out).mono ?_); rintro e w46 ⟨rfl, hb⟩; have n0_ := Aside0.mk (Kd.R_below (by (with_reducible repeat (first | apply Kd.R_alloc | apply Kd.R_drewN | apply Kd.R_drew)); exact HO_5.out) hb); have n1_ := Aside0.mk (below_step bw hb); clear HO_5; clear HB; have HO_5 := n0_; have HB := n1_; clear n0_ n1_; (try clear hb); (try clear hb2); (try clear hk); (try clear hi)) | (go_at_call 16; (with_reducible refine (bulletinref14_Phrase.calls k2 a1 t299 _ A40.out).mono ?_); rintro e w47 ⟨rfl, hb⟩; have n0_ := Aside0.mk (Kd.R_below (by (with_reducible repeat (first | apply Kd.R_alloc | apply Kd.R_drewN | apply Kd.R_drew)); exact HO_5.out) hb); have n1_ := Aside0.mk (below_step bw hb); clear HO_5; clear HB; have HO_5 := n0_; have HB := n1_; clear n0_ n1_; (try clear hb); (try clear hb2); (try clear hk); (try clear hi)) | (go_at_call 9; (with_reducible refine (bulletinlaw14_works.calls (hG := by first | exact hG | exact Glob.below hG (by first | exact HB.out | (repeat (first | (with_reducible first | exact HB.out | apply below_alloc | apply pw_below_drewN | apply below_drew1) | exact HB.out))) | exact Glob.drawn hG (by repeat (first | exact Drawn0.refl _ | apply Drawn0.step))) k2  t300 _ A42.out).mono ?_); rintro e w48 ⟨rfl, hb⟩; have n0_ := Aside0.mk (Kd.R_below (by (with_reducible repeat (first | apply Kd.R_alloc | apply Kd.R_drewN | apply Kd.R_drew)); exact HO_5.out) hb); have n1_ := Aside0.mk (below_step bw hb); clear HO_5; clear HB; have HO_5 := n0_; have HB := n1_; clear n0_ n1_; (try clear hb); (try clear hb2); (try clear hk); (try clear hi)))
         go_ret
         exact ⟨by first | rfl | (simp [errW_none, errW_some] <;> rfl) | (simp [*, errW_none, errW_some] <;> rfl), bw⟩
        ·rw [if_neg c41] at H
         have c41b0 : (t298.toList == t299.toList) = false := beq_eq_false_iff_ne.mpr c41
         have c41b1 : (t298.toList != t299.toList) = true := bne_iff_ne.mpr c41
         obtain rfl := Option.some.inj H
         obtain ⟨Ao49, co49, eo49⟩ := Kd.R_slice HO_5.out
         subst eo49
         go_wp2_with (first | ((with_reducible refine gate_callee (f := 13) rfl ?_); refine goesL_ (some 70) rfl rfl Tryd.func13 (by kernel_rfl) rfl #[.slice Ao49 x5_2.length co49] rfl am ?_; (with_reducible refine (mbx_ShowAll.calls k2 _ _ x5_2 t296 _ ?side1 ?side2 A36.out).mono ?_); (case side1 => repeat (first | exact (Kd.R_reads' HO_5.out).2.2 | (with_reducible refine Kd.C_alloc ?_ _) | (with_reducible refine Kd.C_drewN ?_ _) | (with_reducible refine Kd.C_drew ?_))); (case side2 => exact (Kd.R_reads' HO_5.out).2.1); rintro e w50 ⟨rfl, hb⟩; refine ⟨_, rfl, ?_⟩; have n0_ := Aside0.mk (Kd.R_below (by (with_reducible repeat (first | apply Kd.R_alloc | apply Kd.R_drewN | apply Kd.R_drew)); exact HO_5.out) hb); have n1_ := Aside0.mk (below_step bw hb); clear HO_5; clear HB; have HO_5 := n0_; have HB := n1_; clear n0_ n1_; (try clear hb); (try clear hb2); (try clear hk); (try clear hi)) | ((with_reducible refine gate_callee (f := 14) rfl ?_); refine goesL_ (some 72) rfl rfl Tryd.func14 (by kernel_rfl) rfl #[.slice A0 l0.length c0] rfl am ?_; (with_reducible refine (bulletinref14_ShowAll.calls k2 _ _ l0 t297 _ ?side1 ?side2 A37.out).mono ?_); (case side1 => repeat (first | exact (Kd.C_below HR0.out HB.out) | (with_reducible refine Kd.C_alloc ?_ _) | (with_reducible refine Kd.C_drewN ?_ _) | (with_reducible refine Kd.C_drew ?_))); (case side2 => exact HC0.out); rintro e w51 ⟨rfl, hb⟩; refine ⟨_, rfl, ?_⟩; have n0_ := Aside0.mk (Kd.R_below (by (with_reducible repeat (first | apply Kd.R_alloc | apply Kd.R_drewN | apply Kd.R_drew)); exact HO_5.out) hb); have n1_ := Aside0.mk (below_step bw hb); clear HO_5; clear HB; have HO_5 := n0_; have HB := n1_; clear n0_ n1_; (try clear hb); (try clear hb2); (try clear hk); (try clear hi)) | (go_at_call 15; (with_reducible refine (mbx_Phrase.calls a1 t298 _ A39.out).mono ?_); rintro e w52 ⟨rfl, hb⟩; have n0_ := Aside0.mk (Kd.R_below (by (with_reducible repeat (first | apply Kd.R_alloc | apply Kd.R_drewN | apply Kd.R_drew)); exact HO_5.out) hb); have n1_ := Aside0.mk (below_step bw hb); clear HO_5; clear HB; have HO_5 := n0_; have HB := n1_; clear n0_ n1_; (try clear hb); (try clear hb2); (try clear hk); (try clear hi)) | (go_at_call 16; (with_reducible refine (bulletinref14_Phrase.calls k2 a1 t299 _ A40.out).mono ?_); rintro e w53 ⟨rfl, hb⟩; have n0_ := Aside0.mk (Kd.R_below (by (with_reducible repeat (first | apply Kd.R_alloc | apply Kd.R_drewN | apply Kd.R_drew)); exact HO_5.out) hb); have n1_ := Aside0.mk (below_step bw hb); clear HO_5; clear HB; have HO_5 := n0_; have HB := n1_; clear n0_ n1_; (try clear hb); (try clear hb2); (try clear hk); (try clear hi)))
         go_ret
         exact ⟨by first | rfl | (simp [errW_none, errW_some] <;> rfl) | (simp [*, errW_none, errW_some] <;> rfl), bw⟩
       ·rw [if_neg c38] at H
        have c38b0 : (t296.toList == t297.toList) = false := beq_eq_false_iff_ne.mpr c38
        have c38b1 : (t296.toList != t297.toList) = true := bne_iff_ne.mpr c38
        obtain rfl := Option.some.inj H
        obtain ⟨Ao54, co54, eo54⟩ := Kd.R_slice HO_5.out
        subst eo54
        go_wp2_with (first | ((with_reducible refine gate_callee (f := 13) rfl ?_); refine goesL_ (some 70) rfl rfl Tryd.func13 (by kernel_rfl) rfl #[.slice Ao54 x5_2.length co54] rfl am ?_; (with_reducible refine (mbx_ShowAll.calls k2 _ _ x5_2 t296 _ ?side1 ?side2 A36.out).mono ?_); (case side1 => repeat (first | exact (Kd.R_reads' HO_5.out).2.2 | (with_reducible refine Kd.C_alloc ?_ _) | (with_reducible refine Kd.C_drewN ?_ _) | (with_reducible refine Kd.C_drew ?_))); (case side2 => exact (Kd.R_reads' HO_5.out).2.1); rintro e w55 ⟨rfl, hb⟩; refine ⟨_, rfl, ?_⟩; have n0_ := Aside0.mk (Kd.R_below (by (with_reducible repeat (first | apply Kd.R_alloc | apply Kd.R_drewN | apply Kd.R_drew)); exact HO_5.out) hb); have n1_ := Aside0.mk (below_step bw hb); clear HO_5; clear HB; have HO_5 := n0_; have HB := n1_; clear n0_ n1_; (try clear hb); (try clear hb2); (try clear hk); (try clear hi)) | ((with_reducible refine gate_callee (f := 14) rfl ?_); refine goesL_ (some 72) rfl rfl Tryd.func14 (by kernel_rfl) rfl #[.slice A0 l0.length c0] rfl am ?_; (with_reducible refine (bulletinref14_ShowAll.calls k2 _ _ l0 t297 _ ?side1 ?side2 A37.out).mono ?_); (case side1 => repeat (first | exact (Kd.C_below HR0.out HB.out) | (with_reducible refine Kd.C_alloc ?_ _) | (with_reducible refine Kd.C_drewN ?_ _) | (with_reducible refine Kd.C_drew ?_))); (case side2 => exact HC0.out); rintro e w56 ⟨rfl, hb⟩; refine ⟨_, rfl, ?_⟩; have n0_ := Aside0.mk (Kd.R_below (by (with_reducible repeat (first | apply Kd.R_alloc | apply Kd.R_drewN | apply Kd.R_drew)); exact HO_5.out) hb); have n1_ := Aside0.mk (below_step bw hb); clear HO_5; clear HB; have HO_5 := n0_; have HB := n1_; clear n0_ n1_; (try clear hb); (try clear hb2); (try clear hk); (try clear hi)))
        go_ret
        exact ⟨by first | rfl | (simp [errW_none, errW_some] <;> rfl) | (simp [*, errW_none, errW_some] <;> rfl), bw⟩

end Go.Proofs.YtbjbpgmjijeppaaDoor.Fn
set_option linter.unusedVariables false
set_option linter.unusedSimpArgs false
namespace Go.Proofs.YtbjbpgmjijeppaaDoor.Pl
open Go.RowKit Go.Proofs.YtbjbpgmjijeppaaDoorW.PrintWords Go.Proofs.YtbjbpgmjijeppaaDoor.Fn

/-! Layer 14: so many addresses. -/
end Go.Proofs.YtbjbpgmjijeppaaDoor.Pl
namespace Go.Proofs.YtbjbpgmjijeppaaDoor.Fn
open Go.RowKit Go.Proofs.YtbjbpgmjijeppaaDoorW.PrintWords Go.Proofs.YtbjbpgmjijeppaaDoorW.PrintLast Go.Proofs.YtbjbpgmjijeppaaDoorW.PrintMore
attribute [local go_sem] max2_int min2_int max_two min_two max_three min_three max_four min_four
set_option linter.unusedVariables false
set_option linter.unusedSimpArgs false

/-! ### mbx_One: function 19 -/
end Go.Proofs.YtbjbpgmjijeppaaDoor.Fn
set_option linter.unusedVariables false
set_option linter.unusedSimpArgs false
namespace Go.Proofs.YtbjbpgmjijeppaaDoor.Pl
open Go.RowKit Go.Proofs.YtbjbpgmjijeppaaDoorW.PrintWords Go.Proofs.YtbjbpgmjijeppaaDoor.Fn

/-! Layer 14: what the program's functions compute -/
theorem rd31 {l : List BoxL} {i : Nat} {x : BoxL} {r : List BoxL} (h : l.drop i = x :: r) : rd_T31 (l.map toBox) (i : Int) = toBox x := by
  have h3 : l[i]? = some x := by
    have := congrArg List.head? h
    rw [List.head?_drop] at this
    exact this
  unfold rd_T31
  rw [Int.toNat_natCast, List.getD_eq_getElem?_getD, List.getElem?_map, h3]
  rfl
theorem mbxPhrase_is (s : ByteArray) (hs : s.size ≤ 1000000000) : mbx_Phrase.f s = some (str (phraseL (bs s))) := by
  unfold mbx_Phrase.f
  rw [if_pos hs]
  congr 1
  unfold phraseB phraseL
  have h : (blanks s).all isAtom = (splitL 32 (bs s)).all atomL := by
    rw [← cuts_split 32 s.size s (Nat.le_refl _), all_map_bs]
    rfl
  rw [h]
  split
  · rw [str_bs]
  · rfl
theorem phraseL_length (n : Bytes) : (phraseL n).length ≤ 2 * n.length + 2 := by
  unfold phraseL
  split
  · omega
  · exact quote_length n
theorem showB_length (x : BoxL) : (showB x).length ≤ 2 * x.1.length + (textL x.2.1 x.2.2).length + 5 := by
  have := phraseL_length x.1
  unfold showB
  split
  · omega
  · simp only [List.length_append, List.length_cons, List.length_nil]; omega
theorem mbxShow_is (n a b : ByteArray) (hn : n.size ≤ 1000000) (ha : a.size ≤ 1000000) (hb : b.size ≤ 1000000) (k : Nat) (hk : 2 * a.size + 1 ≤ k) : mbx_Show.f k n a b = some (str (showB (bs n, bs a, bs b))) := by
  have ht := addrText_is a b ha hb k hk
  have hl := textL_length (bs a) (bs b)
  have hp := phraseL_length (bs n)
  rw [bs_length] at hp hl
  rw [bs_length] at hl
  unfold mbx_Show.f showB
  by_cases h : n.toList = ([] : List UInt8)
  · rw [if_pos h, ht, Option.bind_some, if_pos (by rw [← toList_bs]; exact h)]
  · rw [if_neg h, mbxPhrase_is n (by omega), Option.bind_some, if_pos (by rw [str_size]; omega), ht, Option.bind_some, str_lit #[32, 60], str_lit #[62], str_app, str_app, str_app,
      if_pos (by rw [str_size, str_size]; simp only [List.length_append, List.length_cons, List.length_nil]; omega), if_pos (by rw [str_size]; simp only [List.length_append, List.length_cons, List.length_nil]; omega), if_neg (by rw [← toList_bs]; exact h)]
    simp
def weigh (m : Nat) (xs : List BoxL) : Prop := ∀ x ∈ xs, x.1.length ≤ m ∧ x.2.1.length ≤ m ∧ x.2.2.length ≤ m
theorem join_map_str (xs : List BoxL) : join (xs.map fun x => str (showB x)) ⟨#[44, 32]⟩ = str (Lib.join (xs.map showB) [44, 32]) := by
  unfold join
  rw [List.map_map]
  exact congrArg str (congrArg (Lib.join · [44, 32]) (List.map_congr_left fun x _ => bs_str (showB x)))
theorem joinL_length (m : Nat) : ∀ xs : List Bytes, (∀ x ∈ xs, x.length ≤ m) → (Lib.join xs [44, 32]).length ≤ xs.length * (m + 2)
  | [], _ => by rw [join_nil]; simp
  | [x], h => by
    have := h x (by simp)
    rw [join_one]; simp; omega
  | x :: y :: r, h => by
    have h1 := h x (by simp)
    have ih := joinL_length m (y :: r) (fun z hz => h z (by simp at hz ⊢; exact .inr hz))
    rw [join_cons2]
    simp only [List.length_append, List.length_cons, List.length_nil] at ih ⊢
    rw [Nat.succ_mul]
    omega
theorem mbxShowAll_l0 (m : Nat) (hm : m ≤ 1000000) (xs : List BoxL) (hx : weigh m xs) (hl : xs.length ≤ 1000) : ∀ (r : List BoxL) (i k : Nat), xs.drop i = r → i ≤ xs.length → r.length + 2 * m + 2 ≤ k →
    mbx_ShowAll.l0 k ((xs.take i).map fun x => str (showB x)) (xs.map toBox) (xs.length : Int) (i : Int) = some (str (Lib.join (xs.map showB) [44, 32]))
  | [], i, k, hd, hi, hk => by
    obtain ⟨k, rfl⟩ : ∃ j, k = j + 1 := ⟨k - 1, by omega⟩
    have hz : xs.length ≤ i := by
      have := congrArg List.length hd
      rw [List.length_drop, List.length_nil] at this
      omega
    rw [mbx_ShowAll.l0, if_neg (by omega), List.take_of_length_le hz]
    have hj := joinL_length (2 * m + (3 * m + 3) + 5) (xs.map showB) (fun y hy => by
      obtain ⟨x, hx1, rfl⟩ := List.mem_map.1 hy
      have h1 := showB_length x
      have h2 := textL_length x.2.1 x.2.2
      obtain ⟨h3, h4, h5⟩ := hx x hx1
      omega)
    rw [List.length_map] at hj
    have hj2 : xs.length * (2 * m + (3 * m + 3) + 5 + 2) ≤ 1000 * 5000010 := Nat.mul_le_mul hl (by omega)
    unfold strings_Join.f
    rw [if_pos (by rw [List.length_map]; omega), join_map_str, if_pos (by rw [str_size]; omega), Option.bind_some]
  | x :: r, i, k, hd, hi, hk => by
    simp only [List.length_cons] at hk
    obtain ⟨k, rfl⟩ : ∃ j, k = j + 1 := ⟨k - 1, by omega⟩
    have hlt : i < xs.length := by
      have := congrArg List.length hd
      rw [List.length_drop, List.length_cons] at this
      omega
    have hmem : x ∈ xs := List.mem_of_mem_drop (i := i) (by rw [hd]; exact List.mem_cons_self)
    obtain ⟨h3, h4, h5⟩ := hx x hmem
    have hs : xs.take (i + 1) = xs.take i ++ [x] := by
      rw [List.take_succ_eq_append_getElem hlt]
      congr 2
      have := List.getElem?_drop (xs := xs) (i := i) (j := 0)
      rw [hd] at this
      simpa [List.getElem?_eq_getElem hlt] using this.symm
    rw [mbx_ShowAll.l0, if_pos (by omega), if_pos (by omega), if_pos (by rw [List.length_map]; omega), rd31 hd]
    unfold toBox
    simp only []
    rw [mbxShow_is _ _ _ (by rw [str_size]; omega) (by rw [str_size]; omega) (by rw [str_size]; omega) k (by rw [str_size]; omega), Option.bind_some, bs_str, bs_str, bs_str, if_pos (by rw [List.length_map, List.length_take]; omega), wrap_succ i (by omega)]
    have ih := mbxShowAll_l0 m hm xs hx hl r (i + 1) k (by rw [← List.drop_drop, hd]; rfl) (by omega) (by omega)
    rw [hs, List.map_append, List.map_singleton] at ih
    exact ih
theorem mbxShowAll_is (m : Nat) (hm : m ≤ 1000000) (xs : List BoxL) (hx : weigh m xs) (hl : xs.length ≤ 1000) (k : Nat) (hk : xs.length + 2 * m + 2 ≤ k) : mbx_ShowAll.f k (xs.map toBox) = some (str (Lib.join (xs.map showB) [44, 32])) := by
  unfold mbx_ShowAll.f
  rw [List.length_map]
  exact mbxShowAll_l0 m hm xs hx hl xs 0 k rfl (Nat.zero_le _) hk
set_option maxRecDepth 100000 in
theorem works14 (k : Nat) (hk : 100 ≤ k) : bulletinlaw14_works.f k = some true := mono_up (fun k => bulletinlaw14_works.mono k) (show bulletinlaw14_works.f 100 = some true by decide +kernel) k hk
end Go.Proofs.YtbjbpgmjijeppaaDoor.Pl
set_option linter.unusedVariables false
set_option linter.unusedSimpArgs false
namespace Go.Proofs.YtbjbpgmjijeppaaDoor.Pl
open Go.RowKit Go.Proofs.YtbjbpgmjijeppaaDoorW.PrintWords Go.Proofs.YtbjbpgmjijeppaaDoor.Fn

/-! Layer 14: the document shows the same -/
def rBox (x : BoxL) : S28 := ⟨str x.1, ⟨str x.2.1, str x.2.2⟩⟩
def toL (x : S28) : BoxL := (bs x.f0, bs x.f1.f0, bs x.f1.f1)
theorem rBox_toL (x : S28) : rBox (toL x) = x := by
  unfold rBox toL
  simp only [str_bs]
theorem rd28 {l : List BoxL} {i : Nat} {x : BoxL} {r : List BoxL} (h : l.drop i = x :: r) : rd_T28 (l.map rBox) (i : Int) = rBox x := by
  have h3 : l[i]? = some x := by
    have := congrArg List.head? h
    rw [List.head?_drop] at this
    exact this
  unfold rd_T28
  rw [Int.toNat_natCast, List.getD_eq_getElem?_getD, List.getElem?_map, h3]
  rfl
theorem refSplit32 (s : ByteArray) (hs : s.size ≤ 1000000000) (k : Nat) (hk : s.size + 1 ≤ k) : bulletinref13_Split.f k s 32 = some ((splitL 32 (bs s)).map str) := by
  have := refSplit_l0 s hs 32 (bs s) 0 k [] [] (by simp) (by omega) (by rw [bs_length]; omega) (by simp) (by simp)
  rw [headJoin_nil _ (splitL_ne _ _)] at this
  unfold bulletinref13_Split.f
  exact this
theorem refPhrase_l0 (s : ByteArray) (hs : s.size ≤ 1000000) (l : List Bytes) (hl : l.length ≤ 1000000000) (hw : ∀ w ∈ l, w.length ≤ s.size) : ∀ (rest : List Bytes) (i k : Nat), l.drop i = rest → i ≤ l.length → rest.length + 2 * s.size + 30 ≤ k →
    bulletinref14_Phrase.l0 k s (l.map str) (i : Int) = some (if rest.all atomL = true then s else str (quote (bs s)))
  | [], i, k, hd, hi, hk => by
    obtain ⟨k, rfl⟩ : ∃ j, k = j + 1 := ⟨k - 1, by omega⟩
    have : l.length ≤ i := by have := congrArg List.length hd; simp at this; omega
    rw [bulletinref14_Phrase.l0, if_neg (by rw [List.length_map]; omega)]
    rfl
  | x :: rest, i, k, hd, hi, hk => by
    obtain ⟨k, rfl⟩ : ∃ j, k = j + 1 := ⟨k - 1, by omega⟩
    obtain ⟨h1, h2⟩ := dropS_lt hd
    have hx := hw x (List.mem_of_mem_drop (i := i) (by rw [hd]; simp))
    simp only [List.length_cons] at hk
    rw [bulletinref14_Phrase.l0, if_pos (by rw [List.length_map]; omega), if_pos (by omega), rdS_drop hd, refIsAtom_is (str x) (by rw [str_size]; omega) k (by rw [str_size]; omega), bs_str, Option.bind_some]
    cases ha : atomL x with
    | true => rw [if_pos rfl, wrap_succ i (by omega), refPhrase_l0 s hs l hl hw rest (i + 1) k h2 (by omega) (by omega)]; simp [ha]
    | false => rw [if_neg (by simp), refQuote_is s (by omega) k (by omega), Option.bind_some]; simp [ha]
theorem refPhrase_is (s : ByteArray) (hs : s.size ≤ 1000000) (k : Nat) (hk : 3 * s.size + 40 ≤ k) : bulletinref14_Phrase.f k s = some (str (phraseL (bs s))) := by
  have hl := splitL_length 32 (bs s)
  rw [bs_length] at hl
  unfold bulletinref14_Phrase.f phraseL
  rw [refSplit32 s (by omega) k (by omega), Option.bind_some]
  have := refPhrase_l0 s hs (splitL 32 (bs s)) (by omega) (fun w hw => by have := splitL_mem_length 32 _ _ hw; rw [bs_length] at this; exact this) (splitL 32 (bs s)) 0 k rfl (Nat.zero_le _) (by omega)
  rw [show (0 : Int) = ((0 : Nat) : Int) from rfl, this]
  split
  · rw [str_bs]
  · rfl
theorem refShow_is (n a b : ByteArray) (hn : n.size ≤ 1000000) (ha : a.size ≤ 1000000) (hb : b.size ≤ 1000000) (k : Nat) (hk : 2 * a.size + 3 * n.size + 40 ≤ k) : bulletinref14_Show.f k n a b = some (str (showB (bs n, bs a, bs b))) := by
  have ht := refText_is a b ha hb k (by omega)
  have hl := textL_length (bs a) (bs b)
  have hp := phraseL_length (bs n)
  rw [bs_length] at hp hl
  rw [bs_length] at hl
  unfold bulletinref14_Show.f showB
  by_cases h : n.toList = ([] : List UInt8)
  · rw [if_pos h, ht, Option.bind_some, if_pos (by rw [← toList_bs]; exact h)]
  · rw [if_neg h, refPhrase_is n (by omega) k (by omega), Option.bind_some, if_pos (by rw [str_size]; omega), ht, Option.bind_some, str_lit #[32, 60], str_lit #[62], str_app, str_app, str_app,
      if_pos (by rw [str_size, str_size]; simp only [List.length_append, List.length_cons, List.length_nil]; omega), if_pos (by rw [str_size]; simp only [List.length_append, List.length_cons, List.length_nil]; omega), if_neg (by rw [← toList_bs]; exact h)]
    simp
theorem join_snoc (x : Bytes) (s : Bytes) : ∀ xs : List Bytes, xs ≠ [] → Lib.join (xs ++ [x]) s = Lib.join xs s ++ s ++ x
  | [], h => absurd rfl h
  | [y], _ => by rw [List.singleton_append, join_cons2, join_one, join_one]
  | y :: z :: r, _ => by
    rw [List.cons_append, List.cons_append, join_cons2, ← List.cons_append, join_snoc x s (z :: r) (by simp), join_cons2]
    simp
theorem refShowAll_l0 (m : Nat) (hm : m ≤ 1000000) (xs : List BoxL) (hx : weigh m xs) (hl : xs.length ≤ 1000) : ∀ (r : List BoxL) (i k : Nat), xs.drop i = r → i ≤ xs.length → r.length + 5 * m + 50 ≤ k →
    bulletinref14_ShowAll.l0 k (xs.map rBox) (str (Lib.join ((xs.take i).map showB) [44, 32])) (i : Int) = some (str (Lib.join (xs.map showB) [44, 32]))
  | [], i, k, hd, hi, hk => by
    obtain ⟨k, rfl⟩ : ∃ j, k = j + 1 := ⟨k - 1, by omega⟩
    have hz : xs.length ≤ i := by
      have := congrArg List.length hd
      rw [List.length_drop, List.length_nil] at this
      omega
    rw [bulletinref14_ShowAll.l0, if_neg (by rw [List.length_map]; omega), List.take_of_length_le hz]
  | x :: r, i, k, hd, hi, hk => by
    simp only [List.length_cons] at hk
    obtain ⟨k, rfl⟩ : ∃ j, k = j + 1 := ⟨k - 1, by omega⟩
    have hlt : i < xs.length := by
      have := congrArg List.length hd
      rw [List.length_drop, List.length_cons] at this
      omega
    have hmem : x ∈ xs := List.mem_of_mem_drop (i := i) (by rw [hd]; exact List.mem_cons_self)
    obtain ⟨h3, h4, h5⟩ := hx x hmem
    have hs : xs.take (i + 1) = xs.take i ++ [x] := by
      rw [List.take_succ_eq_append_getElem hlt]
      congr 2
      have := List.getElem?_drop (xs := xs) (i := i) (j := 0)
      rw [hd] at this
      simpa [List.getElem?_eq_getElem hlt] using this.symm
    have hj := joinL_length (2 * m + (3 * m + 3) + 5) ((xs.take i).map showB) (fun y hy => by
      obtain ⟨x, hx1, rfl⟩ := List.mem_map.1 hy
      have h1 := showB_length x
      have h2 := textL_length x.2.1 x.2.2
      obtain ⟨h3, h4, h5⟩ := hx x (List.mem_of_mem_take hx1)
      omega)
    rw [List.length_map, List.length_take] at hj
    have hj2 : min i xs.length * (2 * m + (3 * m + 3) + 5 + 2) ≤ 1000 * 5000010 := Nat.mul_le_mul (by omega) (by omega)
    have hsl := showB_length x
    have htl := textL_length x.2.1 x.2.2
    have ih := refShowAll_l0 m hm xs hx hl r (i + 1) k (by rw [← List.drop_drop, hd]; rfl) (by omega) (by omega)
    have hsh : bulletinref14_Show.f k (rBox x).f0 (rBox x).f1.f0 (rBox x).f1.f1 = some (str (showB x)) := by
      unfold rBox
      simp only []
      rw [refShow_is _ _ _ (by rw [str_size]; omega) (by rw [str_size]; omega) (by rw [str_size]; omega) k (by rw [str_size, str_size]; omega), bs_str, bs_str, bs_str]
    rw [bulletinref14_ShowAll.l0, if_pos (by rw [List.length_map]; omega), rd28 hd, hsh, Option.bind_some, Option.bind_some, wrap_succ i (by omega)]
    by_cases h0 : i = 0
    · subst h0
      rw [if_neg (by omega), if_pos (by omega), List.take_zero, List.map_nil, join_nil, if_pos (by rw [str_size, str_size, List.length_nil]; omega), str_app, List.nil_append]
      rw [hs, List.take_zero, List.nil_append, List.map_cons, List.map_nil, join_one] at ih
      exact ih
    · have hne : (xs.take i).map showB ≠ [] := by
        intro q
        have := congrArg List.length q
        rw [List.length_map, List.length_take, List.length_nil] at this
        omega
      rw [if_pos (by omega), if_pos (by rw [str_size]; omega), if_pos (by omega), str_lit #[44, 32], str_app, if_pos (by rw [str_size, str_size]; simp only [List.length_append, List.length_cons, List.length_nil]; omega), str_app]
      rw [hs, List.map_append, List.map_cons, List.map_nil, join_snoc _ _ _ hne] at ih
      exact ih
theorem refShowAll_is (m : Nat) (hm : m ≤ 1000000) (xs : List BoxL) (hx : weigh m xs) (hl : xs.length ≤ 1000) (k : Nat) (hk : xs.length + 5 * m + 50 ≤ k) : bulletinref14_ShowAll.f k (xs.map rBox) = some (str (Lib.join (xs.map showB) [44, 32])) := by
  unfold bulletinref14_ShowAll.f
  exact refShowAll_l0 m hm xs hx hl xs 0 k rfl (Nat.zero_le _) hk
end Go.Proofs.YtbjbpgmjijeppaaDoor.Pl
set_option linter.unusedVariables false
set_option linter.unusedSimpArgs false
namespace Go.Proofs.YtbjbpgmjijeppaaDoor.Pl
open Go.RowKit Go.Proofs.YtbjbpgmjijeppaaDoorW.PrintWords Go.Proofs.YtbjbpgmjijeppaaDoor.Fn

theorem shows_l0 (xs : List BoxL) (hl : xs.length ≤ 40) (s : ByteArray) (hs : s.size ≤ 300) : ∀ (r : List BoxL) (i k : Nat), xs.drop i = r → i ≤ xs.length → weigh 300 (xs.take i) → 2 * r.length + 5000 ≤ k →
    bulletinlaw14_MbxShows.l0 k (xs.map rBox) s ((xs.take i).map toBox) (i : Int) = some true
  | [], i, k, hd, hi, hw, hk => by
    obtain ⟨k, rfl⟩ : ∃ j, k = j + 1 := ⟨k - 1, by omega⟩
    have hz : xs.length ≤ i := by
      have := congrArg List.length hd
      rw [List.length_drop, List.length_nil] at this
      omega
    rw [List.take_of_length_le hz] at hw ⊢
    rw [bulletinlaw14_MbxShows.l0, if_neg (by rw [List.length_map]; omega), mbxShowAll_is 300 (by omega) xs hw (by omega) k (by omega), Option.bind_some, refShowAll_is 300 (by omega) xs hw (by omega) k (by omega), Option.bind_some, if_pos rfl, mbxPhrase_is s (by omega), Option.bind_some, refPhrase_is s (by omega) k (by omega), Option.bind_some, if_pos rfl, works14 k (by omega), Option.bind_some]
  | x :: r, i, k, hd, hi, hw, hk => by
    simp only [List.length_cons] at hk
    obtain ⟨k, rfl⟩ : ∃ j, k = j + 2 := ⟨k - 2, by omega⟩
    have hlt : i < xs.length := by
      have := congrArg List.length hd
      rw [List.length_drop, List.length_cons] at this
      omega
    have hout : bulletinlaw14_MbxShows.j2 (k + 1) (xs.map rBox) s ((xs.take i).map toBox) (i : Int) true = some true := by
      rw [bulletinlaw14_MbxShows.j2, if_pos rfl, works14 k (by omega), Option.bind_some]
    have hst : xs.take (i + 1) = xs.take i ++ [x] := by
      rw [List.take_succ_eq_append_getElem hlt]
      congr 2
      have := List.getElem?_drop (xs := xs) (i := i) (j := 0)
      rw [hd] at this
      simpa [List.getElem?_eq_getElem hlt] using this.symm
    rw [bulletinlaw14_MbxShows.l0, if_pos (by rw [List.length_map]; omega), if_pos (by omega), rd28 hd]
    have e0 : (rBox x).f0.size = x.1.length := str_size _
    have e1 : (rBox x).f1.f0.size = x.2.1.length := str_size _
    have e2 : (rBox x).f1.f1.size = x.2.2.length := str_size _
    rw [e0, e1, e2]
    by_cases h1 : (x.1.length : Int) > 300
    · rw [if_pos h1]; exact hout
    rw [if_neg h1]
    by_cases h2 : (x.2.1.length : Int) > 300
    · rw [if_pos h2]; exact hout
    rw [if_neg h2]
    by_cases h3 : (x.2.2.length : Int) > 300
    · rw [show decide ((x.2.2.length : Int) > 300) = true from decide_eq_true h3]; exact hout
    have hw2 : weigh 300 (xs.take (i + 1)) := by
      rw [hst]
      intro y hy
      rcases List.mem_append.1 hy with hy | hy
      · exact hw y hy
      · rw [List.mem_singleton.1 hy]; omega
    have ih := shows_l0 xs hl s hs r (i + 1) k (by rw [← List.drop_drop, hd]; rfl) (by omega) hw2 (by omega)
    have hrd : rd_T31 ((xs.take (i + 1)).map toBox) (i : Int) = toBox x := rd31 (r := []) (by rw [hst, List.drop_append, List.drop_of_length_le (by rw [List.length_take]; omega), List.length_take, Nat.min_eq_left (by omega), Nat.sub_self]; rfl)
    have hy : (xs.take i).map toBox ++ [(⟨(rBox x).f0, (⟨(rBox x).f1.f0, (rBox x).f1.f1⟩ : S29)⟩ : S31)] = (xs.take (i + 1)).map toBox := by rw [hst, List.map_append]; rfl
    rw [show decide ((x.2.2.length : Int) > 300) = false from decide_eq_false h3, bulletinlaw14_MbxShows.j2, if_neg (by decide), if_pos (by omega), if_pos (by rw [List.length_map]; omega), rd28 hd]
    unfold bulletinlaw14_To.f
    rw [Option.bind_some]
    simp only []
    rw [if_pos (by rw [List.length_map, List.length_take]; omega), Option.bind_some, hy, if_pos (by rw [List.length_map, List.length_take]; omega), hrd]
    have hsh : mbx_Show.f k (toBox x).f0 (toBox x).f1.f0 (toBox x).f1.f1 = some (str (showB x)) := by
      unfold toBox
      simp only []
      rw [mbxShow_is _ _ _ (by rw [str_size]; omega) (by rw [str_size]; omega) (by rw [str_size]; omega) k (by rw [str_size]; omega), bs_str, bs_str, bs_str]
    have hrs : bulletinref14_Show.f k (rBox x).f0 (rBox x).f1.f0 (rBox x).f1.f1 = some (str (showB x)) := by
      unfold rBox
      simp only []
      rw [refShow_is _ _ _ (by rw [str_size]; omega) (by rw [str_size]; omega) (by rw [str_size]; omega) k (by rw [str_size, str_size]; omega), bs_str, bs_str, bs_str]
    rw [hsh, Option.bind_some, hrs, Option.bind_some, if_pos rfl, wrap_succ i (by omega)]
    exact ih
theorem MbxShows (l : List S28) (s : ByteArray) : ∃ k, bulletinlaw14_MbxShows.f k l s = some true := by
  refine ⟨10000, ?_⟩
  generalize hk : (10000 : Nat) = K
  obtain ⟨K, rfl⟩ : ∃ j, K = j + 1 := ⟨K - 1, by omega⟩
  have hbad : bulletinlaw14_MbxShows.j0 (K + 1) l s true = some true := by rw [bulletinlaw14_MbxShows.j0, if_pos rfl, works14 K (by omega), Option.bind_some]
  unfold bulletinlaw14_MbxShows.f
  by_cases h1 : (l.length : Int) > 40
  · rw [if_pos h1]; exact hbad
  rw [if_neg h1]
  by_cases h2 : (s.size : Int) > 300
  · rw [show decide ((s.size : Int) > 300) = true from decide_eq_true h2]; exact hbad
  rw [show decide ((s.size : Int) > 300) = false from decide_eq_false h2, bulletinlaw14_MbxShows.j0, if_neg (by decide)]
  have hl : l = (l.map toL).map rBox := by
    rw [List.map_map]
    conv => lhs; rw [← List.map_id l]
    exact List.map_congr_left (fun x _ => (rBox_toL x).symm)
  rw [hl]
  exact shows_l0 (l.map toL) (by rw [List.length_map]; omega) s (by omega) (l.map toL) 0 K rfl (Nat.zero_le _) (fun x hx => by cases hx) (by rw [List.length_map]; omega)
end Go.Proofs.YtbjbpgmjijeppaaDoor.Pl
set_option linter.unusedVariables false
namespace Go.Proofs.YtbjbpgmjijeppaaDoor.Fn
open Go.RowKit Go.ChangeShapes Go.WideShapes Go.Proofs.YtbjbpgmjijeppaaDoorW.PrintWords

/-! A slice of boxes (a name, and an address of two texts) that came in. -/
def strOfB : Value → ByteArray | .string s => s | _ => ByteArray.empty
theorem cells_strB : Tryd.prog.cellsOf 9 = 1 := by kernel_rfl
theorem open_addrB {H : Type} {enc : TypeId × Value → H} {w : World} {base : Nat} {spare : Nat → Bool} {held : Bool} {fuel : Nat} {c0 c1 : Value} {y : DataW H × List MemPlace}
    (h : DataW.trod enc Tryd.prog w base spare held fuel 26 [c0, c1] = some y) : c0 = .string (strOfB c0) ∧ c1 = .string (strOfB c1) := by
  obtain ⟨xs, n, _, rfl, hl, hlen, hall⟩ := DataW.trod_struct Tryd.underlying26 h
  match xs, hlen with
  | [y0, y1], _ =>
    have f0 := hall 0 _ rfl
    have f1 := hall 1 _ rfl
    obtain ⟨a0, e0, _⟩ := DataW.trod_string Tryd.underlying9 f0
    obtain ⟨a1, e1, _⟩ := DataW.trod_string Tryd.underlying9 f1
    have k0 : c0 = .string a0 := by have := congrArg (·[0]?) e0; simpa [cells_strB] using this
    have k1 : c1 = .string a1 := by have := congrArg (·[0]?) e1; simpa [cells_strB] using this
    exact ⟨by rw [k0]; rfl, by rw [k1]; rfl⟩
set_option maxRecDepth 100000 in
theorem open_boxB {H : Type} {enc : TypeId × Value → H} {w : World} {base : Nat} {spare : Nat → Bool} {held : Bool} {fuel : Nat} {c0 c1 c2 : Value} {y : DataW H × List MemPlace}
    (h : DataW.trod enc Tryd.prog w base spare held fuel 28 [c0, c1, c2] = some y) : c0 = .string (strOfB c0) ∧ c1 = .string (strOfB c1) ∧ c2 = .string (strOfB c2) := by
  obtain ⟨xs, n, _, rfl, hl, hlen, hall⟩ := DataW.trod_struct Tryd.underlying28 h
  match xs, hlen with
  | [y0, y1], _ =>
    have f0 := hall 0 _ rfl
    have f1 := hall 1 _ rfl
    obtain ⟨a0, e0, _⟩ := DataW.trod_string Tryd.underlying9 f0
    have k0 : c0 = .string a0 := by have := congrArg (·[0]?) e0; simpa [cells_strB] using this
    obtain ⟨k1, k2⟩ := open_addrB (c0 := c1) (c1 := c2) f1
    exact ⟨by rw [k0]; rfl, k1, k2⟩
theorem cells_boxB : Tryd.prog.cellsOf 28 = 3 := by kernel_rfl
set_option maxRecDepth 100000 in
theorem open_boxes {H : Type} {enc : TypeId × Value → H} {w W : World} {base base' : Nat} {spare : Nat → Bool} {held : Bool} {re : Reach} {v : Value} {d : DataW H} {ps : List MemPlace}
    (hv : Value.okWide Tryd.prog W re base' 22 v) (h : DataW.Trod enc Tryd.prog w base spare held 22 v d ps) :
    ∃ (A : Option Addr) (c : Nat) (l : List (S28)), v = .slice A l.length c ∧ l.length ≤ c ∧ c ≤ maxLen ∧ Kd.C k28 w A l.length l := by
  obtain ⟨a, len, cap, rfl⟩ := okWide_slice Tryd.underlying22 hv
  obtain ⟨fuel, h⟩ := h
  have h' : DataW.trod enc Tryd.prog w base spare held fuel 22 [Value.slice a len cap] = some (d, ps) := h
  rcases Go.Deep.open_slice Tryd.underlying22 h' with ⟨h0, _⟩ | ⟨a', len', cap', m, n, D, Pl, hcs, hb, hl, hm, hmm, _, hx⟩
  · refine ⟨none, 0, [], ?_, Nat.le_refl _, Nat.zero_le _, ?_⟩
    · simpa using h0
    · exact ⟨rfl, by simp, fun h => absurd h (by simp)⟩
  · have hlm : len' ≤ m := by rw [hmm]; split <;> omega
    have each : ∀ i, i < len' → ∃ q : ByteArray × ByteArray × ByteArray, w.cell? (a'.add (i * 3)) = some (.string q.1) ∧ w.cell? (a'.add (i * 3 + 1)) = some (.string q.2.1) ∧ w.cell? (a'.add (i * 3 + 2)) = some (.string q.2.2) := fun i hi => by
      obtain ⟨cs', h1, h2⟩ := hx i (by omega)
      rw [cells_boxB] at h1
      obtain ⟨_, hlen, hcell⟩ := World.cells?_some h1
      match cs', hlen with
      | [v0, v1, v2], _ =>
        have e0 := hcell 0 (by omega)
        have e1 := hcell 1 (by omega)
        have e2 := hcell 2 (by omega)
        rw [Go.Deep.add_add] at e0 e1 e2
        obtain ⟨k0, k1, k2⟩ := open_boxB h2
        refine ⟨(strOfB v0, strOfB v1, strOfB v2), ?_, ?_, ?_⟩
        · rw [← k0]; simpa using e0
        · rw [← k1]; simpa using e1
        · rw [← k2]; simpa using e2
    obtain ⟨q, hq⟩ := Go.Deep.choose_lt each
    have hlen : ((List.range len').map fun i => (⟨(q i).1, ⟨(q i).2.1, (q i).2.2⟩⟩ : S28)).length = len' := by simp
    refine ⟨some a', cap', (List.range len').map fun i => ⟨(q i).1, ⟨(q i).2.1, (q i).2.2⟩⟩, ?_, by rw [hlen]; exact hl, hm, ?_⟩
    · rw [hlen]; simpa using hcs
    · rw [hlen]
      refine ⟨hlen, by unfold maxLen at hm; omega, fun h0 => ⟨a', rfl, fun j p hp => ?_⟩⟩
      have hj : j < len' := by
        have := (List.getElem?_eq_some_iff.1 hp).1
        rwa [hlen] at this
      have hp' : p = ⟨(q j).1, ⟨(q j).2.1, (q j).2.2⟩⟩ := by
        rw [List.getElem?_map, List.getElem?_range hj] at hp
        exact (Option.some.inj hp).symm
      subst hp'
      obtain ⟨g0, g1, g2⟩ := hq j hj
      refine ⟨[.string (q j).1, .string (q j).2.1, .string (q j).2.2], rfl, k28_mk w _, fun i u hu => ?_⟩
      match i, hu with
      | 0, hu => obtain rfl := Option.some.inj hu; exact g0
      | 1, hu => obtain rfl := Option.some.inj hu; exact g1
      | 2, hu => obtain rfl := Option.some.inj hu; exact g2
      | i + 3, hu => simp at hu
end Go.Proofs.YtbjbpgmjijeppaaDoor.Fn
