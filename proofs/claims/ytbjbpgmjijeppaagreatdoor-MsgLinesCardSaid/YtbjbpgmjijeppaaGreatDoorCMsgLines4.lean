/- A part of the proof of this sentence: The lines of any body are as the document has them; the tables of unicode/utf8 are as the program's text lays them. -/
import Derived.Test.YtbjbpgmjijeppaaGreatDoorCMsgLines3
import Derived.Lib.SliceRun
import Derived.Shelf.RegionOpenPlain
import Derived.Deep.SlicePairs
import Derived.ProofKit
import Derived.OpenShut
namespace Go.Proofs.YtbjbpgmjijeppaaGreatDoor.Fn
open Go.RowKit Go.Proofs.YtbjbpgmjijeppaaGreatDoorW.PrintWords Go.Proofs.YtbjbpgmjijeppaaGreatDoorW.PrintLast Go.Proofs.YtbjbpgmjijeppaaGreatDoorW.PrintMore
attribute [local go_sem] max2_int min2_int max_two min_two max_three min_three max_four min_four
set_option linter.unusedVariables false
set_option linter.unusedSimpArgs false

/-! ### head_Parse: function 36 -/
mutual
def head_Parse.j1 : Nat → List (S46) → ByteArray → Option ((List (S46)) × ByteArray × Int)
 | 0, _, _ => none
 | k + 1, x2, x3 => head_Parse.l1 k x2 x3 (x2.length : Int) 0
def head_Parse.l1 : Nat → List (S46) → ByteArray → Int → Int → Option ((List (S46)) × ByteArray × Int)
 | 0, _, _, _, _ => none
 | k + 1, x2, x3, x33, x34 => if x34 < x33 then (if 0 ≤ x34 then (if x34 < (x2.length : Int) then ((head_trim.f ((rd_T46 x2 x34).f1)).bind fun t126 => (head_Parse.l1 k (x2.set (x34 : Int).toNat (⟨(rd_T46 x2 x34).f0, t126⟩ : S46)) x3 x33 (wrap64 (x34 + 1)))) else (none)) else (none)) else (some (x2, x3, 0))
def head_Parse.l0 : Nat → ByteArray → List (S46) → ByteArray → Option ((List (S46)) × ByteArray × Int)
 | 0, _, _, _ => none
 | k + 1, x0, x2, x3 => if x0.toList = ([] : List UInt8) then (head_Parse.j1 k x2 x3) else ((strings_Cut.f x0 (⟨#[13, 10]⟩ : ByteArray)).bind fun bt118 => (if bt118.2.2 = true then (if bt118.1.toList = ([] : List UInt8) then (head_Parse.j1 k x2 bt118.2.1) else ((head_grow.f k x2 bt118.1).bind fun bt121 => (if bt121.2 = 0 then (head_Parse.l0 k bt118.2.1 bt121.1 x3) else (some (([] : List (S46)), (⟨#[]⟩ : ByteArray), bt121.2))))) else (some (([] : List (S46)), (⟨#[]⟩ : ByteArray), 9))))
end
def head_Parse.f (k : Nat) (a0 : ByteArray) : Option ((List (S46)) × ByteArray × Int) := head_Parse.l0 k a0 ([] : List (S46)) (⟨#[]⟩ : ByteArray)
theorem head_Parse.mono_l : ∀ k, (∀ y0 y1, LeO (head_Parse.j1 k y0 y1) (head_Parse.j1 (k + 1) y0 y1)) ∧ (∀ y0 y1 y2 y3, LeO (head_Parse.l1 k y0 y1 y2 y3) (head_Parse.l1 (k + 1) y0 y1 y2 y3)) ∧ (∀ y0 y1 y2, LeO (head_Parse.l0 k y0 y1 y2) (head_Parse.l0 (k + 1) y0 y1 y2))
 | 0 => ⟨fun _ _ r h => by simp [head_Parse.j1] at h, fun _ _ _ _ r h => by simp [head_Parse.l1] at h, fun _ _ _ r h => by simp [head_Parse.l0] at h⟩
 | k + 1 => by
  obtain ⟨ih0, ih1, ih2⟩ := head_Parse.mono_l k
  refine ⟨?_, ?_, ?_⟩
  ·intro y0 y1
   unfold head_Parse.j1
   repeat' first
   | (with_reducible exact ih0 _ _)
   | (with_reducible exact ih1 _ _ _ _)
   | (with_reducible exact ih2 _ _ _)
   | (with_reducible exact head_grow.mono _ _ _)
   | (with_reducible exact LeO.refl _)
   | (with_reducible exact LeO.none _)
   | (with_reducible refine LeO.ite ?_ ?_)
   | (with_reducible refine LeO.bind ?_ (fun _ => ?_))
   | exact ih0 _ _
   | exact ih1 _ _ _ _
   | exact ih2 _ _ _
   | exact head_grow.mono _ _ _
   | exact LeO.none _
   | refine LeO.ite ?_ ?_
   | refine LeO.bind ?_ (fun _ => ?_)
  ·intro y0 y1 y2 y3
   unfold head_Parse.l1
   repeat' first
   | (with_reducible exact ih0 _ _)
   | (with_reducible exact ih1 _ _ _ _)
   | (with_reducible exact ih2 _ _ _)
   | (with_reducible exact head_grow.mono _ _ _)
   | (with_reducible exact LeO.refl _)
   | (with_reducible exact LeO.none _)
   | (with_reducible refine LeO.ite ?_ ?_)
   | (with_reducible refine LeO.bind ?_ (fun _ => ?_))
   | exact ih0 _ _
   | exact ih1 _ _ _ _
   | exact ih2 _ _ _
   | exact head_grow.mono _ _ _
   | exact LeO.none _
   | refine LeO.ite ?_ ?_
   | refine LeO.bind ?_ (fun _ => ?_)
  ·intro y0 y1 y2
   unfold head_Parse.l0
   repeat' first
   | (with_reducible exact ih0 _ _)
   | (with_reducible exact ih1 _ _ _ _)
   | (with_reducible exact ih2 _ _ _)
   | (with_reducible exact head_grow.mono _ _ _)
   | (with_reducible exact LeO.refl _)
   | (with_reducible exact LeO.none _)
   | (with_reducible refine LeO.ite ?_ ?_)
   | (with_reducible refine LeO.bind ?_ (fun _ => ?_))
   | exact ih0 _ _
   | exact ih1 _ _ _ _
   | exact ih2 _ _ _
   | exact head_grow.mono _ _ _
   | exact LeO.none _
   | refine LeO.ite ?_ ?_
   | refine LeO.bind ?_ (fun _ => ?_)
theorem head_Parse.mono : ∀ a0 k, LeO (head_Parse.f k a0) (head_Parse.f (k + 1) a0) := by
 intro a0 k
 obtain ⟨ih0, ih1, ih2⟩ := head_Parse.mono_l k
 unfold head_Parse.f
 repeat' first
   | (with_reducible exact ih0 _ _)
   | (with_reducible exact ih1 _ _ _ _)
   | (with_reducible exact ih2 _ _ _)
   | (with_reducible exact head_grow.mono _ _ _)
   | (with_reducible exact LeO.refl _)
   | (with_reducible exact LeO.none _)
   | (with_reducible refine LeO.ite ?_ ?_)
   | (with_reducible refine LeO.bind ?_ (fun _ => ?_))
   | exact ih0 _ _
   | exact ih1 _ _ _ _
   | exact ih2 _ _ _
   | exact head_grow.mono _ _ _
   | exact LeO.none _
   | refine LeO.ite ?_ ?_
   | refine LeO.bind ?_ (fun _ => ?_)
set_option maxHeartbeats 8000000 in
set_option maxRecDepth 100000 in
theorem head_Parse.calls (k : Nat) (a0 : ByteArray) (r1 : List (S46)) (r2 : ByteArray) (r3 : Int) (w : World) (hG : Glob w) (h : head_Parse.f k a0 = some (r1, r2, r3)) :
  Calls Tryz.prog 36 #[.string a0] w fun e w' => ∃ v0_ : Value, e = .returned (.tuple #[v0_, .string r2, .int .i64 r3]) ∧ Kd.R k46 46 w' w.heap.size (fun _ => True) v0_ r1 ∧ Below w.heap.size w w' := by
 have HB := Aside0.mk (Below.refl w.heap.size w)
 have H : (head_Parse.l0 k a0 ([] : List (S46)) (⟨#[]⟩ : ByteArray)) = some (r1, r2, r3) := h
 clear h
 have HC2 := Aside0.mk H
 clear H
 go_enter Tryz.func36, Tryz.ntmps36
 go_upto_block 0 with (fail)
 go_cut [2, 3] (fun v2 v3 wc => ∃ (kq : Nat) (x2_1 : List (S46)) (x3_1 : ByteArray), v3 = .string x3_1 ∧ Aside0 (head_Parse.j1 kq x2_1 x3_1 = some (r1, r2, r3)) ∧ Aside0 (kq ≤ k) ∧ Aside0 (Kd.R k46 46 wc w.heap.size (fun _ => True) v2 x2_1) ∧ Aside0 (Below w.heap.size w wc))
 case first =>
  have H := HC2.out
  clear HC2
  have H' := Aside0.mk H
  clear H
  go_wp2
  go_loopg [0, 2, 3] k (fun kq v0 v2 v3 w' => ∃ (x0_1 : ByteArray) (x2_1 : List (S46)) (x3_1 : ByteArray), v0 = .string x0_1 ∧ v3 = .string x3_1 ∧ Aside0 (head_Parse.l0 kq x0_1 x2_1 x3_1 = some (r1, r2, r3)) ∧ Aside0 (kq ≤ k) ∧ Aside0 (Kd.R k46 46 w' w.heap.size (fun _ => True) v2 x2_1) ∧ Aside0 (Below w.heap.size w w'))
  case atStart => exact ⟨(a0), (([] : List (S46))), ((⟨#[]⟩ : ByteArray)), cl, cl, H', ⟨Nat.le_refl _⟩, ⟨by first | exact Kd.R_nil _ _ _ _ _ | exact Kd.N_nil _ _ _ _ _ | exact Kd.V_nil _ _ _ _ _ | exact Kd.Q_nil _ _ _ _ _ | exact Kd.S_nil _ _ _ _ _⟩, ⟨bw⟩⟩
  case round =>
   clear H'
   try clear p2
   obtain ⟨x0_1, x2_1, x3_1, rfl, rfl, HA, HK1, HO_2, HB⟩ := hrel
   cases gk with
   | zero => exact absurd HA.out (by simp [head_Parse.l0])
   | succ k1 =>
    have H := HA.out
    clear HA
    simp only [head_Parse.l0] at H
    by_cases c3 : x0_1.toList = ([] : List UInt8)
    ·rw [if_pos c3] at H
     have c3b0 : (x0_1.toList == ([] : List UInt8)) = true := beq_iff_eq.mpr c3
     have c3b1 : (x0_1.toList != ([] : List UInt8)) = false := bne_eq_false_iff_eq.mpr c3
     clear c3
     (first | rw [c3b0] | (simp only [i64_w, i32_w]; rw [c3b0]) | skip)
     have H' := Aside0.mk H
     clear H
     go_wp2
     go_meet
     case rel => exact ⟨_, (x2_1), (x3_1), cl, H', ⟨by have := HK1.out; first | omega | exact Nat.le_refl _⟩, ⟨by (with_reducible repeat (first | apply Kd.R_alloc | apply Kd.R_drewN | apply Kd.R_drew)); exact HO_2.out⟩, ⟨bw⟩⟩
    ·rw [if_neg c3] at H
     have c3b0 : (x0_1.toList == ([] : List UInt8)) = false := beq_eq_false_iff_ne.mpr c3
     have c3b1 : (x0_1.toList != ([] : List UInt8)) = true := bne_iff_ne.mpr c3
     (first | rw [c3b0] | (simp only [i64_w, i32_w]; rw [c3b0]) | skip)
     replace H := Option.bind_eq_some_iff.mp H
     obtain ⟨⟨t118, t119, t120⟩, A40, H⟩ := H
     replace H : (if t120 = true then (if t118.toList = ([] : List UInt8) then (head_Parse.j1 k1 x2_1 t119) else ((head_grow.f k1 x2_1 t118).bind fun bt121 => (if bt121.2 = 0 then (head_Parse.l0 k1 t119 bt121.1 x3_1) else (some (([] : List (S46)), (⟨#[]⟩ : ByteArray), bt121.2))))) else (some (([] : List (S46)), (⟨#[]⟩ : ByteArray), 9))) = some (r1, r2, r3) := H
     have A4 := Aside0.mk A40
     clear A40
     by_cases c5 : t120 = true
     ·subst c5
      have H1 : (if t118.toList = ([] : List UInt8) then (head_Parse.j1 k1 x2_1 t119) else ((head_grow.f k1 x2_1 t118).bind fun bt121 => (if bt121.2 = 0 then (head_Parse.l0 k1 t119 bt121.1 x3_1) else (some (([] : List (S46)), (⟨#[]⟩ : ByteArray), bt121.2))))) = some (r1, r2, r3) := by rw [if_pos rfl] at H; exact H
      clear H
      have H := H1
      clear H1
      by_cases c6 : t118.toList = ([] : List UInt8)
      ·rw [if_pos c6] at H
       have c6b0 : (t118.toList == ([] : List UInt8)) = true := beq_iff_eq.mpr c6
       have c6b1 : (t118.toList != ([] : List UInt8)) = false := bne_eq_false_iff_eq.mpr c6
       clear c6
       have H' := Aside0.mk H
       clear H
       go_wp2_with (first | ((with_reducible refine gate_callee (f := 41) rfl ?_); refine goesL_ (some 13) rfl rfl Tryz.func41 (by kernel_rfl) rfl #[.string x0_1, .string (⟨#[13, 10]⟩ : ByteArray)] rfl am ?_; (with_reducible refine (strings_Cut.calls (hG := by first | exact hG | exact Glob.below hG (by first | exact HB.out | (repeat (first | (with_reducible first | exact HB.out | apply below_alloc | apply pw_below_drewN | apply below_drew1) | exact HB.out))) | exact Glob.drawn hG (by repeat (first | exact Drawn0.refl _ | apply Drawn0.step))) x0_1 (⟨#[13, 10]⟩ : ByteArray) t118 t119 true _ A4.out).mono ?_); rintro e w7 ⟨rfl, hb⟩; refine ⟨_, rfl, ?_⟩; have n0_ := Aside0.mk (Kd.R_below (by (with_reducible repeat (first | apply Kd.R_alloc | apply Kd.R_drewN | apply Kd.R_drew)); exact HO_2.out) hb); have n1_ := Aside0.mk (below_step bw hb); clear HO_2; clear HB; have HO_2 := n0_; have HB := n1_; clear n0_ n1_; (try clear hb); (try clear hb2); (try clear hk); (try clear hi)))
       go_meet
       case rel => exact ⟨_, (x2_1), (t119), cl, H', ⟨by have := HK1.out; first | omega | exact Nat.le_refl _⟩, ⟨by (with_reducible repeat (first | apply Kd.R_alloc | apply Kd.R_drewN | apply Kd.R_drew)); exact HO_2.out⟩, ⟨bw⟩⟩
      ·rw [if_neg c6] at H
       have c6b0 : (t118.toList == ([] : List UInt8)) = false := beq_eq_false_iff_ne.mpr c6
       have c6b1 : (t118.toList != ([] : List UInt8)) = true := bne_iff_ne.mpr c6
       replace H := Option.bind_eq_some_iff.mp H
       obtain ⟨⟨t121, t124⟩, A80, H⟩ := H
       replace H : (if t124 = 0 then (head_Parse.l0 k1 t119 t121 x3_1) else (some (([] : List (S46)), (⟨#[]⟩ : ByteArray), t124))) = some (r1, r2, r3) := H
       have A8 := Aside0.mk A80
       clear A80
       by_cases c9 : t124 = 0
       ·rw [if_pos c9] at H
        have c9b0 : (t124 == 0) = true := beq_iff_eq.mpr c9
        have c9b1 : (t124 != 0) = false := bne_eq_false_iff_eq.mpr c9
        clear c9
        have H' := Aside0.mk H
        clear H
        go_wp2_with (first | ((with_reducible refine gate_callee (f := 41) rfl ?_); refine goesL_ (some 13) rfl rfl Tryz.func41 (by kernel_rfl) rfl #[.string x0_1, .string (⟨#[13, 10]⟩ : ByteArray)] rfl am ?_; (with_reducible refine (strings_Cut.calls (hG := by first | exact hG | exact Glob.below hG (by first | exact HB.out | (repeat (first | (with_reducible first | exact HB.out | apply below_alloc | apply pw_below_drewN | apply below_drew1) | exact HB.out))) | exact Glob.drawn hG (by repeat (first | exact Drawn0.refl _ | apply Drawn0.step))) x0_1 (⟨#[13, 10]⟩ : ByteArray) t118 t119 true _ A4.out).mono ?_); rintro e w10 ⟨rfl, hb⟩; refine ⟨_, rfl, ?_⟩; have n0_ := Aside0.mk (Kd.R_below (by (with_reducible repeat (first | apply Kd.R_alloc | apply Kd.R_drewN | apply Kd.R_drew)); exact HO_2.out) hb); have n1_ := Aside0.mk (below_step bw hb); clear HO_2; clear HB; have HO_2 := n0_; have HB := n1_; clear n0_ n1_; (try clear hb); (try clear hb2); (try clear hk); (try clear hi); obtain ⟨Ao11, co11, eo11⟩ := Kd.R_slice HO_2.out; subst eo11) | ((with_reducible refine gate_callee (f := 60) rfl ?_); refine goesL_ (some 26) rfl rfl Tryz.func60 (by kernel_rfl) rfl #[.slice Ao11 x2_1.length co11, .string t118] rfl am ?_; (with_reducible refine (head_grow.calls (hG := by first | exact hG | exact Glob.below hG (by first | exact HB.out | (repeat (first | (with_reducible first | exact HB.out | apply below_alloc | apply pw_below_drewN | apply below_drew1) | exact HB.out))) | exact Glob.drawn hG (by repeat (first | exact Drawn0.refl _ | apply Drawn0.step))) k1 (fun k_ => some k_ = (.slice Ao11 x2_1.length co11 : Value).ownBlock) (.slice Ao11 x2_1.length co11) x2_1 t118 t121 t124 w _ ?side1 ?side2 A8.out).mono ?_); (case side1 => repeat (first | (with_reducible first | exact HB.out | apply below_alloc | apply pw_below_drewN | apply below_drew1) | exact HB.out)); (case side2 => exact Kd.R_tight rfl HO_2.out); rintro e w12 ⟨v122, rfl, ho0, hb, hkp⟩; refine ⟨_, rfl, ?_⟩; have n0_ := Aside0.mk (Kd.R_mono (ok' := fun k_ => True) ho0 (fun k_ hk_ => trivial)); have n1_ := Aside0.mk (hb); clear HB; clear HO_2; have HO123 := n0_; have HB := n1_; clear n0_ n1_; (try clear hb); (try clear hkp); (try clear ho0)))
        go_roundg k1
        case measure => have := HK1.out; omega
        case rel => exact ⟨(t119), (t121), (x3_1), cl, cl, H', ⟨by have := HK1.out; omega⟩, ⟨by (with_reducible repeat (first | apply Kd.R_alloc | apply Kd.R_drewN | apply Kd.R_drew)); exact HO123.out⟩, ⟨bw⟩⟩
       ·rw [if_neg c9] at H
        have c9b0 : (t124 == 0) = false := beq_eq_false_iff_ne.mpr c9
        have c9b1 : (t124 != 0) = true := bne_iff_ne.mpr c9
        simp only [Option.some.injEq, Prod.mk.injEq] at H
        obtain ⟨rfl, rfl, rfl⟩ := H
        go_wp2_with (first | ((with_reducible refine gate_callee (f := 41) rfl ?_); refine goesL_ (some 13) rfl rfl Tryz.func41 (by kernel_rfl) rfl #[.string x0_1, .string (⟨#[13, 10]⟩ : ByteArray)] rfl am ?_; (with_reducible refine (strings_Cut.calls (hG := by first | exact hG | exact Glob.below hG (by first | exact HB.out | (repeat (first | (with_reducible first | exact HB.out | apply below_alloc | apply pw_below_drewN | apply below_drew1) | exact HB.out))) | exact Glob.drawn hG (by repeat (first | exact Drawn0.refl _ | apply Drawn0.step))) x0_1 (⟨#[13, 10]⟩ : ByteArray) t118 t119 true _ A4.out).mono ?_); rintro e w13 ⟨rfl, hb⟩; refine ⟨_, rfl, ?_⟩; have n0_ := Aside0.mk (Kd.R_below (by (with_reducible repeat (first | apply Kd.R_alloc | apply Kd.R_drewN | apply Kd.R_drew)); exact HO_2.out) hb); have n1_ := Aside0.mk (below_step bw hb); clear HO_2; clear HB; have HO_2 := n0_; have HB := n1_; clear n0_ n1_; (try clear hb); (try clear hb2); (try clear hk); (try clear hi); obtain ⟨Ao14, co14, eo14⟩ := Kd.R_slice HO_2.out; subst eo14) | ((with_reducible refine gate_callee (f := 60) rfl ?_); refine goesL_ (some 26) rfl rfl Tryz.func60 (by kernel_rfl) rfl #[.slice Ao14 x2_1.length co14, .string t118] rfl am ?_; (with_reducible refine (head_grow.calls (hG := by first | exact hG | exact Glob.below hG (by first | exact HB.out | (repeat (first | (with_reducible first | exact HB.out | apply below_alloc | apply pw_below_drewN | apply below_drew1) | exact HB.out))) | exact Glob.drawn hG (by repeat (first | exact Drawn0.refl _ | apply Drawn0.step))) k1 (fun k_ => some k_ = (.slice Ao14 x2_1.length co14 : Value).ownBlock) (.slice Ao14 x2_1.length co14) x2_1 t118 t121 t124 w _ ?side1 ?side2 A8.out).mono ?_); (case side1 => repeat (first | (with_reducible first | exact HB.out | apply below_alloc | apply pw_below_drewN | apply below_drew1) | exact HB.out)); (case side2 => exact Kd.R_tight rfl HO_2.out); rintro e w15 ⟨v122, rfl, ho0, hb, hkp⟩; refine ⟨_, rfl, ?_⟩; have n0_ := Aside0.mk (Kd.R_mono (ok' := fun k_ => True) ho0 (fun k_ hk_ => trivial)); have n1_ := Aside0.mk (hb); clear HB; clear HO_2; have HO123 := n0_; have HB := n1_; clear n0_ n1_; (try clear hb); (try clear hkp); (try clear ho0)))
        go_ret3
        exact ⟨_, by first | rfl | (simp [errW_none, errW_some] <;> rfl) | (simp [*, errW_none, errW_some] <;> rfl), by first | exact Kd.R_nil _ _ _ _ _ | exact Kd.N_nil _ _ _ _ _ | exact Kd.V_nil _ _ _ _ _ | exact Kd.Q_nil _ _ _ _ _ | exact Kd.S_nil _ _ _ _ _, bw⟩
     ·replace c5 := Bool.eq_false_iff.mpr c5
      subst c5
      have H1 : (some (([] : List (S46)), (⟨#[]⟩ : ByteArray), 9)) = some (r1, r2, r3) := by rw [if_neg (show ¬ (false = true) by decide)] at H; exact H
      clear H
      have H := H1
      clear H1
      simp only [Option.some.injEq, Prod.mk.injEq] at H
      obtain ⟨rfl, rfl, rfl⟩ := H
      go_wp2_with (first | ((with_reducible refine gate_callee (f := 41) rfl ?_); refine goesL_ (some 13) rfl rfl Tryz.func41 (by kernel_rfl) rfl #[.string x0_1, .string (⟨#[13, 10]⟩ : ByteArray)] rfl am ?_; (with_reducible refine (strings_Cut.calls (hG := by first | exact hG | exact Glob.below hG (by first | exact HB.out | (repeat (first | (with_reducible first | exact HB.out | apply below_alloc | apply pw_below_drewN | apply below_drew1) | exact HB.out))) | exact Glob.drawn hG (by repeat (first | exact Drawn0.refl _ | apply Drawn0.step))) x0_1 (⟨#[13, 10]⟩ : ByteArray) t118 t119 false _ A4.out).mono ?_); rintro e w16 ⟨rfl, hb⟩; refine ⟨_, rfl, ?_⟩; have n0_ := Aside0.mk (Kd.R_below (by (with_reducible repeat (first | apply Kd.R_alloc | apply Kd.R_drewN | apply Kd.R_drew)); exact HO_2.out) hb); have n1_ := Aside0.mk (below_step bw hb); clear HO_2; clear HB; have HO_2 := n0_; have HB := n1_; clear n0_ n1_; (try clear hb); (try clear hb2); (try clear hk); (try clear hi)))
      go_ret3
      exact ⟨_, by first | rfl | (simp [errW_none, errW_some] <;> rfl) | (simp [*, errW_none, errW_some] <;> rfl), by first | exact Kd.R_nil _ _ _ _ _ | exact Kd.N_nil _ _ _ _ _ | exact Kd.V_nil _ _ _ _ _ | exact Kd.Q_nil _ _ _ _ _ | exact Kd.S_nil _ _ _ _ _, bw⟩
 case rest =>
  clear HC2
  try clear p2
  try clear c3
  try clear c3b0
  try clear c3b1
  try clear c4
  try clear c5
  try clear c6
  try clear c6b0
  try clear c6b1
  try clear c9
  try clear c9b0
  try clear c9b1
  try clear p2
  obtain ⟨kq, x2_1, x3_1, rfl, HA, HJ1, HO_2, HB⟩ := hcut
  cases kq with
  | zero => exact absurd HA.out (by simp [head_Parse.j1])
  | succ kj1 =>
   have H := HA.out
   clear HA
   simp only [head_Parse.j1] at H
   have H' := Aside0.mk H
   clear H
   obtain ⟨Ao17, co17, eo17⟩ := Kd.R_slice HO_2.out
   subst eo17
   go_wp2
   go_loopg [34] kj1 (fun kq v34 w' => ∃ (x2_2 : List (S46)) (x34_2 : Int), v34 = .int .i64 x34_2 ∧ Aside0 (head_Parse.l1 kq x2_2 x3_1 (x2_1.length : Int) x34_2 = some (r1, r2, r3)) ∧ Aside0 (kq ≤ kj1) ∧ Aside0 (Kd.R k46 46 w' w.heap.size (fun _ => True) (.slice Ao17 x2_1.length co17) x2_2) ∧ Aside0 (Below w.heap.size w w'))
   case atStart => exact ⟨(x2_1), (0), cl, H', ⟨Nat.le_refl _⟩, ⟨by (with_reducible repeat (first | apply Kd.R_alloc | apply Kd.R_drewN | apply Kd.R_drew)); exact HO_2.out⟩, ⟨bw⟩⟩
   case round =>
    clear H'
    try clear p2
    try clear c3
    try clear c3b0
    try clear c3b1
    try clear c4
    try clear c5
    try clear c6
    try clear c6b0
    try clear c6b1
    try clear c9
    try clear c9b0
    try clear c9b1
    try clear p2
    obtain ⟨x2_2, x34_2, rfl, HA, HK2, HO_2, HB⟩ := hrel
    have hl2_2 := (Kd.R_reads' HO_2.out).1
    rw [hl2_2] at HO_2
    (try simp only [hl2_2])
    cases gk with
    | zero => exact absurd HA.out (by simp [head_Parse.l1])
    | succ k2 =>
     have H := HA.out
     clear HA
     simp only [head_Parse.l1] at H
     by_cases c18 : x34_2 < (x2_1.length : Int)
     ·rw [if_pos c18] at H
      have c18b0 : decide (x34_2 < (x2_1.length : Int)) = true := decide_eq_true c18
      clear c18
      by_cases c19 : 0 ≤ x34_2
      ·rw [if_pos c19] at H
       have c19b0 : decide (0 ≤ x34_2) = true := decide_eq_true c19
       clear c19
       by_cases c20 : x34_2 < (x2_2.length : Int)
       ·rw [if_pos c20] at H
        have c20b0 : decide (x34_2 < (x2_2.length : Int)) = true := decide_eq_true c20
        clear c20
        replace H := Option.bind_eq_some_iff.mp H
        obtain ⟨t126, A210, H⟩ := H
        replace H : (head_Parse.l1 k2 (x2_2.set (x34_2 : Int).toNat (⟨(rd_T46 x2_2 x34_2).f0, t126⟩ : S46)) x3_1 (x2_1.length : Int) (wrap64 (x34_2 + 1))) = some (r1, r2, r3) := H
        have A21 := Aside0.mk A210
        clear A210
        obtain ⟨y127, hy127⟩ : ∃ y_ : List (S46), y_ = (x2_2.set (x34_2 : Int).toNat (⟨(rd_T46 x2_2 x34_2).f0, t126⟩ : S46)) := ⟨_, rfl⟩
        replace H : (head_Parse.l1 k2 y127 x3_1 (x2_1.length : Int) (wrap64 (x34_2 + 1))) = some (r1, r2, r3) := by first | (rw [hy127]; with_reducible exact H) | (have H2_ := (Option.bind_some _ _).symm.trans H; rw [hy127]; with_reducible exact H2_) | (have H2_ := (Option.bind_some _ _).symm.trans H; with_reducible exact H2_) | with_reducible exact H | (rw [hy127]; exact H) | exact H
        have Ny127 := Aside0.mk hy127
        clear hy127
        have H' := Aside0.mk H
        clear H
        have p125 : 0 ≤ (x34_2 : Int) := od
        have q125 : x34_2 < (x2_2.length : Int) := od
        obtain ⟨ad125, e125, hx125_0, hx125_1⟩ := at_T46 (Kd.R_reads' HO_2.out).2.2 x34_2 p125 q125
        cases e125
        replace p125 := eq_true p125
        replace q125 := eq_true q125
        go_wp2_with (first | ((with_reducible refine gate_callee (f := 46) rfl ?_); refine goesL_ (some 44) rfl rfl Tryz.func46 (by kernel_rfl) rfl #[.string ((rd_T46 x2_2 x34_2).f1)] rfl am ?_; (with_reducible refine (head_trim.calls ((rd_T46 x2_2 x34_2).f1) t126 _ A21.out).mono ?_); rintro e w23 ⟨rfl, hb⟩; refine ⟨_, rfl, ?_⟩; have n0_ := Aside0.mk (Kd.R_below (by (with_reducible repeat (first | apply Kd.R_alloc | apply Kd.R_drewN | apply Kd.R_drew)); exact HO_2.out) hb); have n1_ := Aside0.mk (below_step bw hb); clear HO_2; clear HB; have HO_2 := n0_; have HB := n1_; clear n0_ n1_; (try clear hb); (try clear hb2); (try clear hk); (try clear hi); have p22 : 0 ≤ (x34_2 : Int) := od; have q22 : (x34_2 : Int) < ((x2_2.length : Int) : Int) := od; obtain ⟨go22, co22, eo22, gb22, gl22, cl22, HG22⟩ := Kd.R_form HO_2.out (by omega); (first | cases eo22 | (injection eo22 with ea_ en_ ec_; (first | subst ea_ | (injection ea_ with ea_; subst ea_)); subst ec_; clear en_)); have GB22 := Aside0.mk gb22; have GG22 := Aside0.mk HG22; clear gb22 gl22 HG22; (first | simp only [add_plain] at hx125_0 | skip); (first | simp only [add_plain] at hx125_1 | skip); obtain ⟨ce22, hcl22, hM22, hcc22, hfr22⟩ := Kd.R_elem HO_2.out z46 (x34_2 : Int) p22 q22; obtain rfl := k46_openM hM22; have hx22_0 : w23.cell? ⟨go22, (x34_2 : Int).toNat * 2, none⟩ = some (.string ((rd_T46 x2_2 x34_2).f0)) := hcc22 0 _ rfl; have hx22_1 : w23.cell? ⟨go22, (x34_2 : Int).toNat * 2 + 1, none⟩ = some (.string ((rd_T46 x2_2 x34_2).f1)) := hcc22 1 _ rfl; have hf22_0 : w23.frozen? ⟨go22, (x34_2 : Int).toNat * 2, none⟩ = false := hfr22 0; have hf22_1 : w23.frozen? ⟨go22, (x34_2 : Int).toNat * 2 + 1, none⟩ = false := hfr22 1; clear hcl22 hcc22 hfr22 hM22; replace p22 := eq_true p22; replace q22 := eq_true q22; have HX24 := Aside0.mk (show Kd.R k46 46 w23 w.heap.size (fun _ => True) (.slice (some ⟨go22, 0, none⟩) x2_2.length co17) x2_2 from (by (with_reducible repeat (first | apply Kd.R_alloc | apply Kd.R_drewN | apply Kd.R_drew)); exact HO_2.out)); obtain ⟨ce24, hcl24, hM24, hcc24, hfr24⟩ := Kd.R_elem HX24.out z46 (x34_2 : Int) (od) (by have h_ : (x34_2 : Int) < ((x2_2.length : Int) : Int) := od; first | exact h_ | (have e_ := (Kd.R_reads' HO_2.out).1; omega) | simpa using h_); obtain rfl := k46_openM hM24; have HP24 := Kd.R_seg HX24.out (x34_2 : Int) (od) (by have h_ : (x34_2 : Int) < ((x2_2.length : Int) : Int) := od; first | exact h_ | (have e_ := (Kd.R_reads' HO_2.out).1; omega) | simpa using h_) (seg := [.string t126]) (j := 1) hcl24 hcc24 (show 2 ≤ 2 from by decide) (x' := (⟨(rd_T46 x2_2 x34_2).f0, t126⟩ : S46)) (k46_mkM _ _ _ (⟨(rd_T46 x2_2 x34_2).f0, t126⟩ : S46) ) (fun _ hk => hk); have hx24_1 := hcc24 1 _ rfl; (try simp only [show (k46).sz = 2 from rfl, Nat.mul_one, Nat.add_zero] at hx24_1); have hf24_1 := hfr24 1; (try simp only [show (k46).sz = 2 from rfl, Nat.mul_one, Nat.add_zero] at hf24_1); clear hcl24 hcc24 hfr24 hM24) | ((with_reducible refine gate_store (t := 9) (p := 46) rfl ?_); refine store_event (t := 9) (p := 46) (v := ?vo_w25) (w1 := (w23.setCell ⟨go22, (x34_2 : Int).toNat * 2 + 1, none⟩ (.string t126))) ?hg ?ho ?hn ?hr ?_; (case ho => rfl); (case hg => rfl); (case hn => rfl); (case hr => first | (go_simp; done) | (go_simp; rfl)); intro w25 hw; have hg : w23.grownBy w25 (some go22) := (by rw [hw]; exact HP24.2); have hp_ : Kd.R k46 46 w25 w.heap.size (fun _ => True) (.slice (some ⟨go22, 0, none⟩) x2_2.length co17) y127 := (by rw [hw, Ny127.out]; exact HP24.1); clear HP24; have n0_ := Aside0.mk (hp_); have n1_ := Aside0.mk ((by rw [hw]; exact below_set (HB.out) GB22.out : Below w.heap.size w w25)); clear HO_2; clear HB; have HO_2 := n0_; have HB := n1_; clear n0_ n1_; clear hg hw hp_))
        (try simp only [← hl2_2])
        go_roundg k2
        case measure => have := HJ1.out; have := HK2.out; omega
        case rel => exact ⟨(y127), (wrap64 (x34_2 + 1)), cl, H', ⟨by have := HJ1.out; have := HK2.out; omega⟩, ⟨by (try simp only [hl2_2]); (with_reducible repeat (first | apply Kd.R_alloc | apply Kd.R_drewN | apply Kd.R_drew)); exact HO_2.out⟩, ⟨bw⟩⟩
       ·rw [if_neg c20] at H
        exact absurd H (by simp)
      ·rw [if_neg c19] at H
       exact absurd H (by simp)
     ·rw [if_neg c18] at H
      have c18b0 : decide (x34_2 < (x2_1.length : Int)) = false := decide_eq_false c18
      (try simp only [hl2_2] at c18b0)
      clear c18
      simp only [Option.some.injEq, Prod.mk.injEq] at H
      obtain ⟨rfl, rfl, rfl⟩ := H
      go_wp2
      go_ret3
      exact ⟨_, by first | rfl | (simp [errW_none, errW_some] <;> rfl) | (simp [*, errW_none, errW_some] <;> rfl), by (with_reducible repeat (first | apply Kd.R_alloc | apply Kd.R_drewN | apply Kd.R_drew)); exact HO_2.out, bw⟩

end Go.Proofs.YtbjbpgmjijeppaaGreatDoor.Fn
namespace Go.Proofs.YtbjbpgmjijeppaaGreatDoor.Fn
open Go.RowKit Go.Proofs.YtbjbpgmjijeppaaGreatDoorW.PrintWords Go.Proofs.YtbjbpgmjijeppaaGreatDoorW.PrintLast Go.Proofs.YtbjbpgmjijeppaaGreatDoorW.PrintMore
attribute [local go_sem] max2_int min2_int max_two min_two max_three min_three max_four min_four
set_option linter.unusedVariables false
set_option linter.unusedSimpArgs false

/-! ### msg_Parse: function 10 -/
def msg_Parse.f (k : Nat) (a0 : ByteArray) : Option ((List (S46)) × ByteArray × Int) := if (a0.size : Int) > 65536 then (some (([] : List (S46)), (⟨#[]⟩ : ByteArray), 2)) else ((head_Parse.f k a0).bind fun bt129 => (if bt129.2.2 = 0 then (some (bt129.1, bt129.2.1, 0)) else (some (([] : List (S46)), (⟨#[]⟩ : ByteArray), bt129.2.2))))
theorem msg_Parse.mono : ∀ a0 k, LeO (msg_Parse.f k a0) (msg_Parse.f (k + 1) a0) := by
 intro a0 k
 unfold msg_Parse.f
 repeat' first
   | (with_reducible exact head_Parse.mono _ _)
   | (with_reducible exact LeO.refl _)
   | (with_reducible exact LeO.none _)
   | (with_reducible refine LeO.ite ?_ ?_)
   | (with_reducible refine LeO.bind ?_ (fun _ => ?_))
   | exact head_Parse.mono _ _
   | exact LeO.none _
   | refine LeO.ite ?_ ?_
   | refine LeO.bind ?_ (fun _ => ?_)
set_option maxHeartbeats 8000000 in
set_option maxRecDepth 100000 in
theorem msg_Parse.calls (k : Nat) (a0 : ByteArray) (r1 : List (S46)) (r2 : ByteArray) (r3 : Int) (w : World) (hG : Glob w) (h : msg_Parse.f k a0 = some (r1, r2, r3)) :
  Calls Tryz.prog 10 #[.string a0] w fun e w' => ∃ v0_ : Value, e = .returned (.tuple #[.agg #[v0_, .string r2], .int .i64 r3]) ∧ Kd.R k46 46 w' w.heap.size (fun _ => True) v0_ r1 ∧ Below w.heap.size w w' := by
 have hu25 := Tryz.underlying25
 have HB := Aside0.mk (Below.refl w.heap.size w)
 have H : (if (a0.size : Int) > 65536 then (some (([] : List (S46)), (⟨#[]⟩ : ByteArray), 2)) else ((head_Parse.f k a0).bind fun bt129 => (if bt129.2.2 = 0 then (some (bt129.1, bt129.2.1, 0)) else (some (([] : List (S46)), (⟨#[]⟩ : ByteArray), bt129.2.2))))) = some (r1, r2, r3) := h
 clear h
 by_cases c2 : (a0.size : Int) > 65536
 ·rw [if_pos c2] at H
  have c2b0 : decide (65536 < (a0.size : Int)) = true := decide_eq_true c2
  have c2b1 : decide (65536 < a0.size) = true := decide_eq_true (by omega)
  clear c2
  simp only [Option.some.injEq, Prod.mk.injEq] at H
  obtain ⟨rfl, rfl, rfl⟩ := H
  go_enter Tryz.func10, Tryz.ntmps10
  go_wp2_with (first | ((with_reducible refine gate_dst (N := 2) rfl ?_); refine box_event ?hg (N := 2) ?hd (cs := #[.slice none 0 0, .string (⟨#[]⟩ : ByteArray)]) (t := 25) ?hr ?_; (case hd => rfl); (case hg => rfl); (case hr => first | (go_simp; done) | (go_simp; rfl)); intro gb128 hg w3 hbox hb; have n0_ := Aside0.mk (below_step bw hb); have n1_ := Aside0.mk (hbox); have n2_ := Aside0.mk ((by rw [hg]; exact (below_size bw) : w.heap.size ≤ gb128)); have n3_ := Aside0.mk ((by rw [hg]; exact (below_size bw) : w.heap.size ≤ gb128)); clear HB; have HB := n0_; have BK128 := n1_; have GW128 := n2_; have GE128 := n3_; clear n0_ n1_ n2_ n3_; clear hb hbox hg; have hcz4_0 : w3.cell? ⟨gb128, 0, none⟩ = some (.slice none 0 0) := (blk_cell BK128.out 0).trans rfl; have hcz4_1 : w3.cell? ⟨gb128, 1, none⟩ = some (.string (⟨#[]⟩ : ByteArray)) := (blk_cell BK128.out 1).trans rfl; have hfz4_0 := blk_frozen BK128.out 0; have hfz4_1 := blk_frozen BK128.out 1))
  refine bodyPost_ret (results_ct rfl _ _ gb128 25 #[.slice none 0 0, .string (⟨#[]⟩ : ByteArray)] (0, 0) _ rfl (by (with_reducible repeat (first | refine blk_drewN ?_ _ | refine blk_drew ?_ | refine blk_alloc ?_ _)); refine blk_put (cs := #[.slice none 0 0, .string (⟨#[]⟩ : ByteArray)]) ?_ 1 _ rfl; (with_reducible repeat (first | refine blk_drewN ?_ _ | refine blk_drew ?_ | refine blk_alloc ?_ _)); refine blk_put (cs := #[.slice none 0 0, .string (⟨#[]⟩ : ByteArray)]) ?_ 0 _ rfl; (with_reducible repeat (first | refine blk_drewN ?_ _ | refine blk_drew ?_ | refine blk_alloc ?_ _)); exact BK128.out) Tryz.underlying25 rfl (by kernel_rfl)) rfl ?_
  exact ⟨_, by first | rfl | (simp [errW_none, errW_some] <;> rfl) | (simp [*, errW_none, errW_some] <;> rfl), by first | exact Kd.R_nil _ _ _ _ _ | exact Kd.N_nil _ _ _ _ _ | exact Kd.V_nil _ _ _ _ _ | exact Kd.Q_nil _ _ _ _ _ | exact Kd.S_nil _ _ _ _ _, bwS⟩
 ·rw [if_neg c2] at H
  have c2b0 : decide (65536 < (a0.size : Int)) = false := decide_eq_false c2
  have c2b1 : decide (65536 < a0.size) = false := decide_eq_false (by omega)
  clear c2
  replace H := Option.bind_eq_some_iff.mp H
  obtain ⟨⟨t129, t130, t131⟩, A50, H⟩ := H
  replace H : (if t131 = 0 then (some (t129, t130, 0)) else (some (([] : List (S46)), (⟨#[]⟩ : ByteArray), t131))) = some (r1, r2, r3) := H
  have A5 := Aside0.mk A50
  clear A50
  by_cases c6 : t131 = 0
  ·rw [if_pos c6] at H
   have c6b0 : (t131 == 0) = true := beq_iff_eq.mpr c6
   have c6b1 : (t131 != 0) = false := bne_eq_false_iff_eq.mpr c6
   clear c6
   simp only [Option.some.injEq, Prod.mk.injEq] at H
   obtain ⟨rfl, rfl, rfl⟩ := H
   go_enter Tryz.func10, Tryz.ntmps10
   go_wp2_with (first | ((with_reducible refine gate_dst (N := 2) rfl ?_); refine box_event ?hg (N := 2) ?hd (cs := #[.slice none 0 0, .string (⟨#[]⟩ : ByteArray)]) (t := 25) ?hr ?_; (case hd => rfl); (case hg => rfl); (case hr => first | (go_simp; done) | (go_simp; rfl)); intro gb128 hg w7 hbox hb; have n0_ := Aside0.mk (below_step bw hb); have n1_ := Aside0.mk (hbox); have n2_ := Aside0.mk ((by rw [hg]; exact (below_size bw) : w.heap.size ≤ gb128)); have n3_ := Aside0.mk ((by rw [hg]; exact (below_size bw) : w.heap.size ≤ gb128)); clear HB; have HB := n0_; have BK128 := n1_; have GW128 := n2_; have GE128 := n3_; clear n0_ n1_ n2_ n3_; clear hb hbox hg) | ((with_reducible refine gate_callee (f := 36) rfl ?_); refine goesL_ (some 13) rfl rfl Tryz.func36 (by kernel_rfl) rfl #[.string a0] rfl am ?_; (with_reducible refine (head_Parse.calls (hG := by first | exact hG | exact Glob.below hG (by first | exact HB.out | (repeat (first | (with_reducible first | exact HB.out | apply below_alloc | apply pw_below_drewN | apply below_drew1 | refine below_set ?_ GE128.out) | exact HB.out))) | exact Glob.drawn hG (by repeat (first | exact Drawn0.refl _ | apply Drawn0.step))) k a0 t129 t130 t131 _ A5.out).mono ?_); rintro e w8 ⟨v132, rfl, ho0, hb⟩; refine ⟨_, rfl, ?_⟩; have n0_ := Aside0.mk (Kd.R_lower ho0 (below_size bwS)); have n1_ := Aside0.mk (blk_below (g := gb128) (o := .cells #[.slice none 0 0, .string (⟨#[]⟩ : ByteArray)] 25 (0, 0)) bk hb); have n2_ := Aside0.mk (below_step bwS hb); clear BK128; clear HB; have HO133 := n0_; have BK128 := n1_; have HB := n2_; clear n0_ n1_ n2_; (try clear hb); (try clear hb2); (try clear hk); (try clear hi); (try clear ho0); obtain ⟨Ao9, co9, eo9⟩ := Kd.R_slice HO133.out; subst eo9; have hcz10_0 : w8.cell? ⟨gb128, 0, none⟩ = some (.slice none 0 0) := (blk_cell BK128.out 0).trans rfl; have hcz10_1 : w8.cell? ⟨gb128, 1, none⟩ = some (.string (⟨#[]⟩ : ByteArray)) := (blk_cell BK128.out 1).trans rfl; have hfz10_0 := blk_frozen BK128.out 0; have hfz10_1 := blk_frozen BK128.out 1))
   refine bodyPost_ret (results_ct rfl _ _ gb128 25 #[.slice Ao9 t129.length co9, .string t130] (0, 0) _ rfl (by (with_reducible repeat (first | refine blk_drewN ?_ _ | refine blk_drew ?_ | refine blk_alloc ?_ _)); refine blk_put (cs := #[.slice Ao9 t129.length co9, .string (⟨#[]⟩ : ByteArray)]) ?_ 1 _ rfl; (with_reducible repeat (first | refine blk_drewN ?_ _ | refine blk_drew ?_ | refine blk_alloc ?_ _)); refine blk_put (cs := #[.slice none 0 0, .string (⟨#[]⟩ : ByteArray)]) ?_ 0 _ rfl; (with_reducible repeat (first | refine blk_drewN ?_ _ | refine blk_drew ?_ | refine blk_alloc ?_ _)); exact BK128.out) Tryz.underlying25 rfl (by kernel_rfl)) rfl ?_
   exact ⟨_, by first | rfl | (simp [errW_none, errW_some] <;> rfl) | (simp [*, errW_none, errW_some] <;> rfl), by (with_reducible repeat (first | apply Kd.R_alloc | apply Kd.R_drewN | apply Kd.R_drew)); exact Kd.R_mono (Kd.R_far (p := ⟨gb128, 1, none⟩) (Kd.R_far (p := ⟨gb128, 0, none⟩) (Kd.R_types HO133.out BK128.out (by decide)) (fun _ hk => hk.2) (.slice Ao9 t129.length co9)) (fun _ hk => hk.2) (.string t130)) (fun _ hk => trivial), bwS⟩
  ·rw [if_neg c6] at H
   have c6b0 : (t131 == 0) = false := beq_eq_false_iff_ne.mpr c6
   have c6b1 : (t131 != 0) = true := bne_iff_ne.mpr c6
   simp only [Option.some.injEq, Prod.mk.injEq] at H
   obtain ⟨rfl, rfl, rfl⟩ := H
   go_enter Tryz.func10, Tryz.ntmps10
   go_wp2_with (first | ((with_reducible refine gate_dst (N := 2) rfl ?_); refine box_event ?hg (N := 2) ?hd (cs := #[.slice none 0 0, .string (⟨#[]⟩ : ByteArray)]) (t := 25) ?hr ?_; (case hd => rfl); (case hg => rfl); (case hr => first | (go_simp; done) | (go_simp; rfl)); intro gb128 hg w11 hbox hb; have n0_ := Aside0.mk (below_step bw hb); have n1_ := Aside0.mk (hbox); have n2_ := Aside0.mk ((by rw [hg]; exact (below_size bw) : w.heap.size ≤ gb128)); have n3_ := Aside0.mk ((by rw [hg]; exact (below_size bw) : w.heap.size ≤ gb128)); clear HB; have HB := n0_; have BK128 := n1_; have GW128 := n2_; have GE128 := n3_; clear n0_ n1_ n2_ n3_; clear hb hbox hg) | ((with_reducible refine gate_callee (f := 36) rfl ?_); refine goesL_ (some 13) rfl rfl Tryz.func36 (by kernel_rfl) rfl #[.string a0] rfl am ?_; (with_reducible refine (head_Parse.calls (hG := by first | exact hG | exact Glob.below hG (by first | exact HB.out | (repeat (first | (with_reducible first | exact HB.out | apply below_alloc | apply pw_below_drewN | apply below_drew1 | refine below_set ?_ GE128.out) | exact HB.out))) | exact Glob.drawn hG (by repeat (first | exact Drawn0.refl _ | apply Drawn0.step))) k a0 t129 t130 t131 _ A5.out).mono ?_); rintro e w12 ⟨v132, rfl, ho0, hb⟩; refine ⟨_, rfl, ?_⟩; have n0_ := Aside0.mk (Kd.R_lower ho0 (below_size bwS)); have n1_ := Aside0.mk (blk_below (g := gb128) (o := .cells #[.slice none 0 0, .string (⟨#[]⟩ : ByteArray)] 25 (0, 0)) bk hb); have n2_ := Aside0.mk (below_step bwS hb); clear BK128; clear HB; have HO133 := n0_; have BK128 := n1_; have HB := n2_; clear n0_ n1_ n2_; (try clear hb); (try clear hb2); (try clear hk); (try clear hi); (try clear ho0); have hcz13_0 : w12.cell? ⟨gb128, 0, none⟩ = some (.slice none 0 0) := (blk_cell BK128.out 0).trans rfl; have hcz13_1 : w12.cell? ⟨gb128, 1, none⟩ = some (.string (⟨#[]⟩ : ByteArray)) := (blk_cell BK128.out 1).trans rfl; have hfz13_0 := blk_frozen BK128.out 0; have hfz13_1 := blk_frozen BK128.out 1))
   refine bodyPost_ret (results_ct rfl _ _ gb128 25 #[.slice none 0 0, .string (⟨#[]⟩ : ByteArray)] (0, 0) _ rfl (by (with_reducible repeat (first | refine blk_drewN ?_ _ | refine blk_drew ?_ | refine blk_alloc ?_ _)); refine blk_put (cs := #[.slice none 0 0, .string (⟨#[]⟩ : ByteArray)]) ?_ 1 _ rfl; (with_reducible repeat (first | refine blk_drewN ?_ _ | refine blk_drew ?_ | refine blk_alloc ?_ _)); refine blk_put (cs := #[.slice none 0 0, .string (⟨#[]⟩ : ByteArray)]) ?_ 0 _ rfl; (with_reducible repeat (first | refine blk_drewN ?_ _ | refine blk_drew ?_ | refine blk_alloc ?_ _)); exact BK128.out) Tryz.underlying25 rfl (by kernel_rfl)) rfl ?_
   exact ⟨_, by first | rfl | (simp [errW_none, errW_some] <;> rfl) | (simp [*, errW_none, errW_some] <;> rfl), by first | exact Kd.R_nil _ _ _ _ _ | exact Kd.N_nil _ _ _ _ _ | exact Kd.V_nil _ _ _ _ _ | exact Kd.Q_nil _ _ _ _ _ | exact Kd.S_nil _ _ _ _ _, bwS⟩

end Go.Proofs.YtbjbpgmjijeppaaGreatDoor.Fn
namespace Go.Proofs.YtbjbpgmjijeppaaGreatDoor.Fn
open Go.RowKit Go.Proofs.YtbjbpgmjijeppaaGreatDoorW.PrintWords Go.Proofs.YtbjbpgmjijeppaaGreatDoorW.PrintLast Go.Proofs.YtbjbpgmjijeppaaGreatDoorW.PrintMore
attribute [local go_sem] max2_int min2_int max_two min_two max_three min_three max_four min_four
set_option linter.unusedVariables false
set_option linter.unusedSimpArgs false

/-! ### bulletinlaw16_works: function 9 -/
def bulletinlaw16_works.f (k : Nat)  : Option (Bool) := (msg_Parse.f k (⟨#[70, 114, 111, 109, 58, 32, 65, 110, 110, 32, 60, 97, 64, 98, 62, 13, 10, 13, 10, 104, 105, 13, 10]⟩ : ByteArray)).bind fun bt289 => ((msg_Message_From.f k bt289.1 bt289.2.1).bind fun bt295 => ((msg_Message_Lines.f k bt289.1 bt289.2.1).bind fun t300 => (if bt289.2.2 = 0 then (if bt295.2.2.2 = 0 then (if bt295.1.toList = ([65, 110, 110] : List UInt8) then (if bt295.2.1.toList = ([97] : List UInt8) then (if (t300.length : Int) = 1 then (if 0 < (t300.length : Int) then (if (rdOf ByteArray.empty t300 0).toList = ([104, 105] : List UInt8) then ((msg_Message_Text.f bt289.1 bt289.2.1).bind fun t304 => (some (t304.toList == ([70, 114, 111, 109, 58, 32, 65, 110, 110, 32, 60, 97, 64, 98, 62, 13, 10, 13, 10, 104, 105, 13, 10] : List UInt8)))) else (some false)) else (none)) else (some false)) else (some false)) else (some false)) else (some false)) else (some false))))
theorem bulletinlaw16_works.mono : ∀ k, LeO (bulletinlaw16_works.f k ) (bulletinlaw16_works.f (k + 1) ) := by
 intro  k
 unfold bulletinlaw16_works.f
 repeat' first
   | (with_reducible exact msg_Message_From.mono _ _ _)
   | (with_reducible exact msg_Message_Lines.mono _ _ _)
   | (with_reducible exact msg_Parse.mono _ _)
   | (with_reducible exact LeO.refl _)
   | (with_reducible exact LeO.none _)
   | (with_reducible refine LeO.ite ?_ ?_)
   | (with_reducible refine LeO.bind ?_ (fun _ => ?_))
   | exact msg_Message_From.mono _ _ _
   | exact msg_Message_Lines.mono _ _ _
   | exact msg_Parse.mono _ _
   | exact LeO.none _
   | refine LeO.ite ?_ ?_
   | refine LeO.bind ?_ (fun _ => ?_)
set_option maxHeartbeats 8000000 in
set_option maxRecDepth 100000 in
theorem bulletinlaw16_works.calls (k : Nat)  (r : Bool) (w : World) (hG : Glob w) (h : bulletinlaw16_works.f k  = some r) :
  Calls Tryz.prog 9 #[] w fun e w' => e = .returned (.bool r) ∧ Below w.heap.size w w' := by
 have hu25 := Tryz.underlying25
 have hu53 := Tryz.underlying53
 have HB := Aside0.mk (Below.refl w.heap.size w)
 have H : ((msg_Parse.f k (⟨#[70, 114, 111, 109, 58, 32, 65, 110, 110, 32, 60, 97, 64, 98, 62, 13, 10, 13, 10, 104, 105, 13, 10]⟩ : ByteArray)).bind fun bt289 => ((msg_Message_From.f k bt289.1 bt289.2.1).bind fun bt295 => ((msg_Message_Lines.f k bt289.1 bt289.2.1).bind fun t300 => (if bt289.2.2 = 0 then (if bt295.2.2.2 = 0 then (if bt295.1.toList = ([65, 110, 110] : List UInt8) then (if bt295.2.1.toList = ([97] : List UInt8) then (if (t300.length : Int) = 1 then (if 0 < (t300.length : Int) then (if (rdOf ByteArray.empty t300 0).toList = ([104, 105] : List UInt8) then ((msg_Message_Text.f bt289.1 bt289.2.1).bind fun t304 => (some (t304.toList == ([70, 114, 111, 109, 58, 32, 65, 110, 110, 32, 60, 97, 64, 98, 62, 13, 10, 13, 10, 104, 105, 13, 10] : List UInt8)))) else (some false)) else (none)) else (some false)) else (some false)) else (some false)) else (some false)) else (some false))))) = some r := h
 clear h
 replace H := Option.bind_eq_some_iff.mp H
 obtain ⟨⟨t289, t292, t293⟩, A10, H⟩ := H
 replace H : ((msg_Message_From.f k t289 t292).bind fun bt295 => ((msg_Message_Lines.f k t289 t292).bind fun t300 => (if t293 = 0 then (if bt295.2.2.2 = 0 then (if bt295.1.toList = ([65, 110, 110] : List UInt8) then (if bt295.2.1.toList = ([97] : List UInt8) then (if (t300.length : Int) = 1 then (if 0 < (t300.length : Int) then (if (rdOf ByteArray.empty t300 0).toList = ([104, 105] : List UInt8) then ((msg_Message_Text.f t289 t292).bind fun t304 => (some (t304.toList == ([70, 114, 111, 109, 58, 32, 65, 110, 110, 32, 60, 97, 64, 98, 62, 13, 10, 13, 10, 104, 105, 13, 10] : List UInt8)))) else (some false)) else (none)) else (some false)) else (some false)) else (some false)) else (some false)) else (some false)))) = some r := H
 have A1 := Aside0.mk A10
 clear A10
 replace H := Option.bind_eq_some_iff.mp H
 obtain ⟨⟨t295, t296, t297, t298⟩, A20, H⟩ := H
 replace H : ((msg_Message_Lines.f k t289 t292).bind fun t300 => (if t293 = 0 then (if t298 = 0 then (if t295.toList = ([65, 110, 110] : List UInt8) then (if t296.toList = ([97] : List UInt8) then (if (t300.length : Int) = 1 then (if 0 < (t300.length : Int) then (if (rdOf ByteArray.empty t300 0).toList = ([104, 105] : List UInt8) then ((msg_Message_Text.f t289 t292).bind fun t304 => (some (t304.toList == ([70, 114, 111, 109, 58, 32, 65, 110, 110, 32, 60, 97, 64, 98, 62, 13, 10, 13, 10, 104, 105, 13, 10] : List UInt8)))) else (some false)) else (none)) else (some false)) else (some false)) else (some false)) else (some false)) else (some false))) = some r := H
 have A2 := Aside0.mk A20
 clear A20
 replace H := Option.bind_eq_some_iff.mp H
 obtain ⟨t300, A30, H⟩ := H
 replace H : (if t293 = 0 then (if t298 = 0 then (if t295.toList = ([65, 110, 110] : List UInt8) then (if t296.toList = ([97] : List UInt8) then (if (t300.length : Int) = 1 then (if 0 < (t300.length : Int) then (if (rdOf ByteArray.empty t300 0).toList = ([104, 105] : List UInt8) then ((msg_Message_Text.f t289 t292).bind fun t304 => (some (t304.toList == ([70, 114, 111, 109, 58, 32, 65, 110, 110, 32, 60, 97, 64, 98, 62, 13, 10, 13, 10, 104, 105, 13, 10] : List UInt8)))) else (some false)) else (none)) else (some false)) else (some false)) else (some false)) else (some false)) else (some false)) = some r := H
 have A3 := Aside0.mk A30
 clear A30
 by_cases c4 : t293 = 0
 ·rw [if_pos c4] at H
  have c4b0 : (t293 == 0) = true := beq_iff_eq.mpr c4
  have c4b1 : (t293 != 0) = false := bne_eq_false_iff_eq.mpr c4
  clear c4
  by_cases c5 : t298 = 0
  ·rw [if_pos c5] at H
   have c5b0 : (t298 == 0) = true := beq_iff_eq.mpr c5
   have c5b1 : (t298 != 0) = false := bne_eq_false_iff_eq.mpr c5
   clear c5
   by_cases c6 : t295.toList = ([65, 110, 110] : List UInt8)
   ·rw [if_pos c6] at H
    have c6b0 : (t295.toList == ([65, 110, 110] : List UInt8)) = true := beq_iff_eq.mpr c6
    have c6b1 : (t295.toList != ([65, 110, 110] : List UInt8)) = false := bne_eq_false_iff_eq.mpr c6
    clear c6
    by_cases c7 : t296.toList = ([97] : List UInt8)
    ·rw [if_pos c7] at H
     have c7b0 : (t296.toList == ([97] : List UInt8)) = true := beq_iff_eq.mpr c7
     have c7b1 : (t296.toList != ([97] : List UInt8)) = false := bne_eq_false_iff_eq.mpr c7
     clear c7
     by_cases c8 : (t300.length : Int) = 1
     ·rw [if_pos c8] at H
      have c8b0 : ((t300.length : Int) == 1) = true := beq_iff_eq.mpr c8
      have c8b1 : ((t300.length : Int) != 1) = false := bne_eq_false_iff_eq.mpr c8
      clear c8
      by_cases c9 : 0 < (t300.length : Int)
      ·rw [if_pos c9] at H
       have c9b0 : decide (0 < (t300.length : Int)) = true := decide_eq_true c9
       have c9b1 : decide (0 < t300.length) = true := decide_eq_true (by omega)
       clear c9
       by_cases c10 : (rdOf ByteArray.empty t300 0).toList = ([104, 105] : List UInt8)
       ·rw [if_pos c10] at H
        have c10b0 : ((rdOf ByteArray.empty t300 0).toList == ([104, 105] : List UInt8)) = true := beq_iff_eq.mpr c10
        have c10b1 : ((rdOf ByteArray.empty t300 0).toList != ([104, 105] : List UInt8)) = false := bne_eq_false_iff_eq.mpr c10
        clear c10
        replace H := Option.bind_eq_some_iff.mp H
        obtain ⟨t304, A110, H⟩ := H
        replace H : (some (t304.toList == ([70, 114, 111, 109, 58, 32, 65, 110, 110, 32, 60, 97, 64, 98, 62, 13, 10, 13, 10, 104, 105, 13, 10] : List UInt8))) = some r := H
        have A11 := Aside0.mk A110
        clear A110
        obtain rfl := Option.some.inj H
        go_enter Tryz.func9, Tryz.ntmps9
        go_wp2_with (first | ((with_reducible refine gate_callee (f := 10) rfl ?_); refine goesL_ (some 7) rfl rfl Tryz.func10 (by kernel_rfl) rfl #[.string (⟨#[70, 114, 111, 109, 58, 32, 65, 110, 110, 32, 60, 97, 64, 98, 62, 13, 10, 13, 10, 104, 105, 13, 10]⟩ : ByteArray)] rfl am ?_; (with_reducible refine (msg_Parse.calls (hG := by first | exact hG | exact Glob.below hG (by first | exact HB.out | (repeat (first | (with_reducible first | exact HB.out | apply below_alloc | apply pw_below_drewN | apply below_drew1 | refine below_set ?_ GE294.out | refine below_set ?_ GE299.out) | exact HB.out))) | exact Glob.drawn hG (by repeat (first | exact Drawn0.refl _ | apply Drawn0.step))) k (⟨#[70, 114, 111, 109, 58, 32, 65, 110, 110, 32, 60, 97, 64, 98, 62, 13, 10, 13, 10, 104, 105, 13, 10]⟩ : ByteArray) t289 t292 t293 _ A1.out).mono ?_); rintro e w12 ⟨v290, rfl, ho0, hb⟩; refine ⟨_, rfl, ?_⟩; have n0_ := Aside0.mk (Kd.R_lower ho0 (below_size bw)); have n1_ := Aside0.mk (below_step bw hb); clear HB; have HO291 := n0_; have HB := n1_; clear n0_ n1_; (try clear hb); (try clear hb2); (try clear hk); (try clear hi); (try clear ho0)) | ((with_reducible refine gate_dst (N := 1) rfl ?_); (try (refine gate_guard (by rfl) ?_; dsimp only)); refine box_event ?hg (N := 1) ?hd (cs := #[.slice none 0 0, .string (⟨#[]⟩ : ByteArray)]) (t := 25) ?hr ?_; (case hd => rfl); (case hg => rfl); (case hr => first | (go_simp; done) | (go_simp; rfl)); intro gb294 hg w13 hbox hb; have n0_ := Aside0.mk (Kd.R_below (by (with_reducible repeat (first | apply Kd.R_alloc | apply Kd.R_drewN | apply Kd.R_drew)); exact HO291.out) hb); have n1_ := Aside0.mk (below_step bw hb); have n2_ := Aside0.mk (hbox); have n3_ := Aside0.mk ((by rw [hg]; exact (below_size bw) : w.heap.size ≤ gb294)); have n4_ := Aside0.mk ((by rw [hg]; exact (below_size bw) : w.heap.size ≤ gb294)); clear HO291; clear HB; have HO291 := n0_; have HB := n1_; have BK294 := n2_; have GW294 := n3_; have GE294 := n4_; clear n0_ n1_ n2_ n3_ n4_; clear hb hbox hg; obtain ⟨Ao14, co14, eo14⟩ := Kd.R_slice HO291.out; subst eo14; have hcz15_0 : w13.cell? ⟨gb294, 0, none⟩ = some (.slice none 0 0) := (blk_cell BK294.out 0).trans rfl; have hcz15_1 : w13.cell? ⟨gb294, 1, none⟩ = some (.string (⟨#[]⟩ : ByteArray)) := (blk_cell BK294.out 1).trans rfl; have hfz15_0 := blk_frozen BK294.out 0; have hfz15_1 := blk_frozen BK294.out 1) | ((with_reducible refine gate_callee (f := 22) rfl ?_); refine goesL_ (some 12) rfl rfl Tryz.func22 (by kernel_rfl) rfl #[.agg #[.slice Ao14 t289.length co14, .string t292]] rfl am ?_; (with_reducible refine (msg_Message_From.calls (hG := by first | exact hG | exact Glob.below hG (by first | exact HB.out | (repeat (first | (with_reducible first | exact HB.out | apply below_alloc | apply pw_below_drewN | apply below_drew1 | refine below_set ?_ GE294.out | refine below_set ?_ GE299.out) | exact HB.out))) | exact Glob.drawn hG (by repeat (first | exact Drawn0.refl _ | apply Drawn0.step))) k _ _ t289 t292 t295 t296 t297 t298 _ ?side1 ?side2 A2.out).mono ?_); (case side1 => refine (Kd.R_reads' (e := 46) (base := w.heap.size) (ok := fun k_ => True) (n := t289.length) (c := co14) ?_).2.2; exact (by (with_reducible repeat (first | apply Kd.R_alloc | apply Kd.R_drewN | apply Kd.R_drew)); exact (Kd.R_mono (Kd.R_far (p := ⟨gb294, 1, none⟩) (Kd.R_far (p := ⟨gb294, 0, none⟩) (Kd.R_types HO291.out BK294.out (by decide)) (fun _ hk => hk.2) (.slice Ao14 t289.length co14)) (fun _ hk => hk.2) (.string t292)) (fun _ h_ => h_.1)))); (case side2 => exact (Kd.R_reads' HO291.out).2.1); rintro e w16 ⟨rfl, hb⟩; refine ⟨_, rfl, ?_⟩; have n0_ := Aside0.mk (Kd.R_below (by (with_reducible repeat (first | apply Kd.R_alloc | apply Kd.R_drewN | apply Kd.R_drew)); exact (Kd.R_mono (Kd.R_far (p := ⟨gb294, 1, none⟩) (Kd.R_far (p := ⟨gb294, 0, none⟩) (Kd.R_types HO291.out BK294.out (by decide)) (fun _ hk => hk.2) (.slice Ao14 t289.length co14)) (fun _ hk => hk.2) (.string t292)) (fun _ h_ => h_.1))) hb); have n1_ := Aside0.mk (blk_below (g := gb294) (o := .cells #[.slice Ao14 t289.length co14, .string t292] 25 (0, 0)) (by (with_reducible repeat (first | refine blk_drewN ?_ _ | refine blk_drew ?_ | refine blk_alloc ?_ _)); refine blk_put (cs := #[.slice Ao14 t289.length co14, .string (⟨#[]⟩ : ByteArray)]) ?_ 1 _ rfl; (with_reducible repeat (first | refine blk_drewN ?_ _ | refine blk_drew ?_ | refine blk_alloc ?_ _)); refine blk_put (cs := #[.slice none 0 0, .string (⟨#[]⟩ : ByteArray)]) ?_ 0 _ rfl; (with_reducible repeat (first | refine blk_drewN ?_ _ | refine blk_drew ?_ | refine blk_alloc ?_ _)); exact BK294.out) hb); have n2_ := Aside0.mk (below_step bwS hb); clear HO291; clear BK294; clear HB; have HO291 := n0_; have BK294 := n1_; have HB := n2_; clear n0_ n1_ n2_; (try clear hb); (try clear hb2); (try clear hk); (try clear hi)) | ((with_reducible refine gate_dst (N := 3) rfl ?_); (try (refine gate_guard (by rfl) ?_; dsimp only)); refine box_event ?hg (N := 3) ?hd (cs := #[.string (⟨#[]⟩ : ByteArray), .string (⟨#[]⟩ : ByteArray), .string (⟨#[]⟩ : ByteArray)]) (t := 53) ?hr ?_; (case hd => rfl); (case hg => rfl); (case hr => first | (go_simp; done) | (go_simp; rfl)); intro gb299 hg w17 hbox hb; have n0_ := Aside0.mk (Kd.R_below (by (with_reducible repeat (first | apply Kd.R_alloc | apply Kd.R_drewN | apply Kd.R_drew)); exact HO291.out) hb); have n1_ := Aside0.mk (blk_below (g := gb294) (o := .cells #[.slice Ao14 t289.length co14, .string t292] 25 (0, 0)) bk hb); have n2_ := Aside0.mk (below_step bwS hb); have n3_ := Aside0.mk (hbox); have n4_ := Aside0.mk ((by rw [hg]; exact (below_size bwS) : w.heap.size ≤ gb299)); have n5_ := Aside0.mk ((by rw [hg]; exact (below_size bwS) : w.heap.size ≤ gb299)); have n6_ := Aside0.mk ((by rw [hg]; exact Nat.ne_of_lt (blk_lt (g := gb294) (o := .cells #[.slice Ao14 t289.length co14, .string t292] 25 (0, 0)) bk) : gb294 ≠ gb299)); have n7_ := Aside0.mk ((by rw [hg]; exact Nat.ne_of_gt (blk_lt (g := gb294) (o := .cells #[.slice Ao14 t289.length co14, .string t292] 25 (0, 0)) bk) : gb299 ≠ gb294)); clear HO291; clear BK294; clear HB; have HO291 := n0_; have BK294 := n1_; have HB := n2_; have BK299 := n3_; have GW299 := n4_; have GE299 := n5_; have NB294_299 := n6_; have NB299_294 := n7_; clear n0_ n1_ n2_ n3_ n4_ n5_ n6_ n7_; clear hb hbox hg; have hnb18 := NB299_294.out; have hnc18 := NB294_299.out; have hcz19_0 : w17.cell? ⟨gb299, 0, none⟩ = some (.string (⟨#[]⟩ : ByteArray)) := (blk_cell BK299.out 0).trans rfl; have hcz19_1 : w17.cell? ⟨gb299, 1, none⟩ = some (.string (⟨#[]⟩ : ByteArray)) := (blk_cell BK299.out 1).trans rfl; have hcz19_2 : w17.cell? ⟨gb299, 2, none⟩ = some (.string (⟨#[]⟩ : ByteArray)) := (blk_cell BK299.out 2).trans rfl; have hfz19_0 := blk_frozen BK299.out 0; have hfz19_1 := blk_frozen BK299.out 1; have hfz19_2 := blk_frozen BK299.out 2; have hcz20_0 : w17.cell? ⟨gb294, 0, none⟩ = some (.slice Ao14 t289.length co14) := (blk_cell BK294.out 0).trans rfl; have hcz20_1 : w17.cell? ⟨gb294, 1, none⟩ = some (.string t292) := (blk_cell BK294.out 1).trans rfl; have hfz20_0 := blk_frozen BK294.out 0; have hfz20_1 := blk_frozen BK294.out 1) | ((with_reducible refine gate_callee (f := 16) rfl ?_); refine goesL_ (some 16) rfl rfl Tryz.func16 (by kernel_rfl) rfl #[.agg #[.slice Ao14 t289.length co14, .string t292]] rfl am ?_; (with_reducible refine (msg_Message_Lines.calls (hG := by first | exact hG | exact Glob.below hG (by first | exact HB.out | (repeat (first | (with_reducible first | exact HB.out | apply below_alloc | apply pw_below_drewN | apply below_drew1 | refine below_set ?_ GE294.out | refine below_set ?_ GE299.out) | exact HB.out))) | exact Glob.drawn hG (by repeat (first | exact Drawn0.refl _ | apply Drawn0.step))) k _ _ t289 t292 t300 _ ?side1 ?side2 A3.out).mono ?_); (case side1 => refine (Kd.R_reads' (e := 46) (base := w.heap.size) (ok := fun k_ => True) (n := t289.length) (c := co14) ?_).2.2; exact (by (with_reducible repeat (first | apply Kd.R_alloc | apply Kd.R_drewN | apply Kd.R_drew)); exact (Kd.R_mono (Kd.R_far (p := ⟨gb299, 2, none⟩) (Kd.R_far (p := ⟨gb299, 1, none⟩) (Kd.R_far (p := ⟨gb299, 0, none⟩) (Kd.R_types HO291.out BK299.out (by decide)) (fun _ hk => hk.2) (.string t295)) (fun _ hk => hk.2) (.string t296)) (fun _ hk => hk.2) (.string t297)) (fun _ h_ => h_.1)))); (case side2 => exact (Kd.R_reads' HO291.out).2.1); rintro e w21 ⟨v301, rfl, ho0, hb⟩; refine ⟨_, rfl, ?_⟩; have n0_ := Aside0.mk (Kd.R_below (by (with_reducible repeat (first | apply Kd.R_alloc | apply Kd.R_drewN | apply Kd.R_drew)); exact (Kd.R_mono (Kd.R_far (p := ⟨gb299, 2, none⟩) (Kd.R_far (p := ⟨gb299, 1, none⟩) (Kd.R_far (p := ⟨gb299, 0, none⟩) (Kd.R_types HO291.out BK299.out (by decide)) (fun _ hk => hk.2) (.string t295)) (fun _ hk => hk.2) (.string t296)) (fun _ hk => hk.2) (.string t297)) (fun _ h_ => h_.1))) hb); have n1_ := Aside0.mk (Kd.R_lower ho0 (below_size bwS)); have n2_ := Aside0.mk (blk_below (g := gb294) (o := .cells #[.slice Ao14 t289.length co14, .string t292] 25 (0, 0)) (by (with_reducible repeat (first | refine blk_drewN ?_ _ | refine blk_drew ?_ | refine blk_alloc ?_ _)); refine blk_far ?_ NB294_299.out _; (with_reducible repeat (first | refine blk_drewN ?_ _ | refine blk_drew ?_ | refine blk_alloc ?_ _)); refine blk_far ?_ NB294_299.out _; (with_reducible repeat (first | refine blk_drewN ?_ _ | refine blk_drew ?_ | refine blk_alloc ?_ _)); refine blk_far ?_ NB294_299.out _; (with_reducible repeat (first | refine blk_drewN ?_ _ | refine blk_drew ?_ | refine blk_alloc ?_ _)); exact BK294.out) hb); have n3_ := Aside0.mk (blk_below (g := gb299) (o := .cells #[.string t295, .string t296, .string t297] 53 (0, 0)) (by (with_reducible repeat (first | refine blk_drewN ?_ _ | refine blk_drew ?_ | refine blk_alloc ?_ _)); refine blk_put (cs := #[.string t295, .string t296, .string (⟨#[]⟩ : ByteArray)]) ?_ 2 _ rfl; (with_reducible repeat (first | refine blk_drewN ?_ _ | refine blk_drew ?_ | refine blk_alloc ?_ _)); refine blk_put (cs := #[.string t295, .string (⟨#[]⟩ : ByteArray), .string (⟨#[]⟩ : ByteArray)]) ?_ 1 _ rfl; (with_reducible repeat (first | refine blk_drewN ?_ _ | refine blk_drew ?_ | refine blk_alloc ?_ _)); refine blk_put (cs := #[.string (⟨#[]⟩ : ByteArray), .string (⟨#[]⟩ : ByteArray), .string (⟨#[]⟩ : ByteArray)]) ?_ 0 _ rfl; (with_reducible repeat (first | refine blk_drewN ?_ _ | refine blk_drew ?_ | refine blk_alloc ?_ _)); exact BK299.out) hb); have n4_ := Aside0.mk (below_step bwS hb); clear HO291; clear BK294; clear BK299; clear HB; have HO291 := n0_; have HO302 := n1_; have BK294 := n2_; have BK299 := n3_; have HB := n4_; clear n0_ n1_ n2_ n3_ n4_; (try clear hb); (try clear hb2); (try clear hk); (try clear hi); (try clear ho0); have hcz22_0 : w21.cell? ⟨gb299, 0, none⟩ = some (.string t295) := (blk_cell BK299.out 0).trans rfl; have hcz22_1 : w21.cell? ⟨gb299, 1, none⟩ = some (.string t296) := (blk_cell BK299.out 1).trans rfl; have hcz22_2 : w21.cell? ⟨gb299, 2, none⟩ = some (.string t297) := (blk_cell BK299.out 2).trans rfl; have hfz22_0 := blk_frozen BK299.out 0; have hfz22_1 := blk_frozen BK299.out 1; have hfz22_2 := blk_frozen BK299.out 2; obtain ⟨Ao23, co23, eo23⟩ := Kd.R_slice HO302.out; subst eo23; have p303 : 0 ≤ (0 : Int) := (by omega); have q303 : 0 < (t300.length : Int) := od; obtain ⟨ad303, e303, hx303_0⟩ := Kd.at_string (Kd.R_reads' HO302.out).2.2 0 p303 q303; cases e303; have qi303 : (0 < t300.length) = True := eq_true (by omega); (try rw [show ((0 : Int)).toNat = 0 from rfl] at hx303_0); (try rw [Addr.add_zero'] at hx303_0); replace p303 := eq_true p303; replace q303 := eq_true q303; have hcz24_0 : w21.cell? ⟨gb294, 0, none⟩ = some (.slice Ao14 t289.length co14) := (blk_cell BK294.out 0).trans rfl; have hcz24_1 : w21.cell? ⟨gb294, 1, none⟩ = some (.string t292) := (blk_cell BK294.out 1).trans rfl; have hfz24_0 := blk_frozen BK294.out 0; have hfz24_1 := blk_frozen BK294.out 1) | (go_at_call 13; (with_reducible refine (msg_Message_Text.calls _ _ t289 t292 t304 _ ?side1 ?side2 A11.out).mono ?_); (case side1 => repeat (first | exact (Kd.R_reads' HO291.out).2.2 | (with_reducible refine Kd.C_alloc ?_ _) | (with_reducible refine Kd.C_drewN ?_ _) | (with_reducible refine Kd.C_drew ?_))); (case side2 => exact (Kd.R_reads' HO291.out).2.1); rintro e w25 ⟨rfl, hb⟩; have n0_ := Aside0.mk (Kd.R_below (by (with_reducible repeat (first | apply Kd.R_alloc | apply Kd.R_drewN | apply Kd.R_drew)); exact HO291.out) hb); have n1_ := Aside0.mk (Kd.R_below (by (with_reducible repeat (first | apply Kd.R_alloc | apply Kd.R_drewN | apply Kd.R_drew)); exact HO302.out) hb); have n2_ := Aside0.mk (blk_below (g := gb294) (o := .cells #[.slice Ao14 t289.length co14, .string t292] 25 (0, 0)) bk hb); have n3_ := Aside0.mk (blk_below (g := gb299) (o := .cells #[.string t295, .string t296, .string t297] 53 (0, 0)) bk hb); have n4_ := Aside0.mk (below_step bwS hb); clear HO291; clear HO302; clear BK294; clear BK299; clear HB; have HO291 := n0_; have HO302 := n1_; have BK294 := n2_; have BK299 := n3_; have HB := n4_; clear n0_ n1_ n2_ n3_ n4_; (try clear hb); (try clear hb2); (try clear hk); (try clear hi)))
        go_ret
        exact ⟨by first | rfl | (simp [errW_none, errW_some] <;> rfl) | (simp [*, errW_none, errW_some] <;> rfl), bwS⟩
       ·rw [if_neg c10] at H
        have c10b0 : ((rdOf ByteArray.empty t300 0).toList == ([104, 105] : List UInt8)) = false := beq_eq_false_iff_ne.mpr c10
        have c10b1 : ((rdOf ByteArray.empty t300 0).toList != ([104, 105] : List UInt8)) = true := bne_iff_ne.mpr c10
        obtain rfl := Option.some.inj H
        go_enter Tryz.func9, Tryz.ntmps9
        go_wp2_with (first | ((with_reducible refine gate_callee (f := 10) rfl ?_); refine goesL_ (some 7) rfl rfl Tryz.func10 (by kernel_rfl) rfl #[.string (⟨#[70, 114, 111, 109, 58, 32, 65, 110, 110, 32, 60, 97, 64, 98, 62, 13, 10, 13, 10, 104, 105, 13, 10]⟩ : ByteArray)] rfl am ?_; (with_reducible refine (msg_Parse.calls (hG := by first | exact hG | exact Glob.below hG (by first | exact HB.out | (repeat (first | (with_reducible first | exact HB.out | apply below_alloc | apply pw_below_drewN | apply below_drew1 | refine below_set ?_ GE294.out | refine below_set ?_ GE299.out) | exact HB.out))) | exact Glob.drawn hG (by repeat (first | exact Drawn0.refl _ | apply Drawn0.step))) k (⟨#[70, 114, 111, 109, 58, 32, 65, 110, 110, 32, 60, 97, 64, 98, 62, 13, 10, 13, 10, 104, 105, 13, 10]⟩ : ByteArray) t289 t292 t293 _ A1.out).mono ?_); rintro e w26 ⟨v290, rfl, ho0, hb⟩; refine ⟨_, rfl, ?_⟩; have n0_ := Aside0.mk (Kd.R_lower ho0 (below_size bw)); have n1_ := Aside0.mk (below_step bw hb); clear HB; have HO291 := n0_; have HB := n1_; clear n0_ n1_; (try clear hb); (try clear hb2); (try clear hk); (try clear hi); (try clear ho0)) | ((with_reducible refine gate_dst (N := 1) rfl ?_); (try (refine gate_guard (by rfl) ?_; dsimp only)); refine box_event ?hg (N := 1) ?hd (cs := #[.slice none 0 0, .string (⟨#[]⟩ : ByteArray)]) (t := 25) ?hr ?_; (case hd => rfl); (case hg => rfl); (case hr => first | (go_simp; done) | (go_simp; rfl)); intro gb294 hg w27 hbox hb; have n0_ := Aside0.mk (Kd.R_below (by (with_reducible repeat (first | apply Kd.R_alloc | apply Kd.R_drewN | apply Kd.R_drew)); exact HO291.out) hb); have n1_ := Aside0.mk (below_step bw hb); have n2_ := Aside0.mk (hbox); have n3_ := Aside0.mk ((by rw [hg]; exact (below_size bw) : w.heap.size ≤ gb294)); have n4_ := Aside0.mk ((by rw [hg]; exact (below_size bw) : w.heap.size ≤ gb294)); clear HO291; clear HB; have HO291 := n0_; have HB := n1_; have BK294 := n2_; have GW294 := n3_; have GE294 := n4_; clear n0_ n1_ n2_ n3_ n4_; clear hb hbox hg; obtain ⟨Ao28, co28, eo28⟩ := Kd.R_slice HO291.out; subst eo28; have hcz29_0 : w27.cell? ⟨gb294, 0, none⟩ = some (.slice none 0 0) := (blk_cell BK294.out 0).trans rfl; have hcz29_1 : w27.cell? ⟨gb294, 1, none⟩ = some (.string (⟨#[]⟩ : ByteArray)) := (blk_cell BK294.out 1).trans rfl; have hfz29_0 := blk_frozen BK294.out 0; have hfz29_1 := blk_frozen BK294.out 1) | ((with_reducible refine gate_callee (f := 22) rfl ?_); refine goesL_ (some 12) rfl rfl Tryz.func22 (by kernel_rfl) rfl #[.agg #[.slice Ao28 t289.length co28, .string t292]] rfl am ?_; (with_reducible refine (msg_Message_From.calls (hG := by first | exact hG | exact Glob.below hG (by first | exact HB.out | (repeat (first | (with_reducible first | exact HB.out | apply below_alloc | apply pw_below_drewN | apply below_drew1 | refine below_set ?_ GE294.out | refine below_set ?_ GE299.out) | exact HB.out))) | exact Glob.drawn hG (by repeat (first | exact Drawn0.refl _ | apply Drawn0.step))) k _ _ t289 t292 t295 t296 t297 t298 _ ?side1 ?side2 A2.out).mono ?_); (case side1 => refine (Kd.R_reads' (e := 46) (base := w.heap.size) (ok := fun k_ => True) (n := t289.length) (c := co28) ?_).2.2; exact (by (with_reducible repeat (first | apply Kd.R_alloc | apply Kd.R_drewN | apply Kd.R_drew)); exact (Kd.R_mono (Kd.R_far (p := ⟨gb294, 1, none⟩) (Kd.R_far (p := ⟨gb294, 0, none⟩) (Kd.R_types HO291.out BK294.out (by decide)) (fun _ hk => hk.2) (.slice Ao28 t289.length co28)) (fun _ hk => hk.2) (.string t292)) (fun _ h_ => h_.1)))); (case side2 => exact (Kd.R_reads' HO291.out).2.1); rintro e w30 ⟨rfl, hb⟩; refine ⟨_, rfl, ?_⟩; have n0_ := Aside0.mk (Kd.R_below (by (with_reducible repeat (first | apply Kd.R_alloc | apply Kd.R_drewN | apply Kd.R_drew)); exact (Kd.R_mono (Kd.R_far (p := ⟨gb294, 1, none⟩) (Kd.R_far (p := ⟨gb294, 0, none⟩) (Kd.R_types HO291.out BK294.out (by decide)) (fun _ hk => hk.2) (.slice Ao28 t289.length co28)) (fun _ hk => hk.2) (.string t292)) (fun _ h_ => h_.1))) hb); have n1_ := Aside0.mk (blk_below (g := gb294) (o := .cells #[.slice Ao28 t289.length co28, .string t292] 25 (0, 0)) (by (with_reducible repeat (first | refine blk_drewN ?_ _ | refine blk_drew ?_ | refine blk_alloc ?_ _)); refine blk_put (cs := #[.slice Ao28 t289.length co28, .string (⟨#[]⟩ : ByteArray)]) ?_ 1 _ rfl; (with_reducible repeat (first | refine blk_drewN ?_ _ | refine blk_drew ?_ | refine blk_alloc ?_ _)); refine blk_put (cs := #[.slice none 0 0, .string (⟨#[]⟩ : ByteArray)]) ?_ 0 _ rfl; (with_reducible repeat (first | refine blk_drewN ?_ _ | refine blk_drew ?_ | refine blk_alloc ?_ _)); exact BK294.out) hb); have n2_ := Aside0.mk (below_step bwS hb); clear HO291; clear BK294; clear HB; have HO291 := n0_; have BK294 := n1_; have HB := n2_; clear n0_ n1_ n2_; (try clear hb); (try clear hb2); (try clear hk); (try clear hi)) | ((with_reducible refine gate_dst (N := 3) rfl ?_); (try (refine gate_guard (by rfl) ?_; dsimp only)); refine box_event ?hg (N := 3) ?hd (cs := #[.string (⟨#[]⟩ : ByteArray), .string (⟨#[]⟩ : ByteArray), .string (⟨#[]⟩ : ByteArray)]) (t := 53) ?hr ?_; (case hd => rfl); (case hg => rfl); (case hr => first | (go_simp; done) | (go_simp; rfl)); intro gb299 hg w31 hbox hb; have n0_ := Aside0.mk (Kd.R_below (by (with_reducible repeat (first | apply Kd.R_alloc | apply Kd.R_drewN | apply Kd.R_drew)); exact HO291.out) hb); have n1_ := Aside0.mk (blk_below (g := gb294) (o := .cells #[.slice Ao28 t289.length co28, .string t292] 25 (0, 0)) bk hb); have n2_ := Aside0.mk (below_step bwS hb); have n3_ := Aside0.mk (hbox); have n4_ := Aside0.mk ((by rw [hg]; exact (below_size bwS) : w.heap.size ≤ gb299)); have n5_ := Aside0.mk ((by rw [hg]; exact (below_size bwS) : w.heap.size ≤ gb299)); have n6_ := Aside0.mk ((by rw [hg]; exact Nat.ne_of_lt (blk_lt (g := gb294) (o := .cells #[.slice Ao28 t289.length co28, .string t292] 25 (0, 0)) bk) : gb294 ≠ gb299)); have n7_ := Aside0.mk ((by rw [hg]; exact Nat.ne_of_gt (blk_lt (g := gb294) (o := .cells #[.slice Ao28 t289.length co28, .string t292] 25 (0, 0)) bk) : gb299 ≠ gb294)); clear HO291; clear BK294; clear HB; have HO291 := n0_; have BK294 := n1_; have HB := n2_; have BK299 := n3_; have GW299 := n4_; have GE299 := n5_; have NB294_299 := n6_; have NB299_294 := n7_; clear n0_ n1_ n2_ n3_ n4_ n5_ n6_ n7_; clear hb hbox hg; have hnb32 := NB299_294.out; have hnc32 := NB294_299.out; have hcz33_0 : w31.cell? ⟨gb299, 0, none⟩ = some (.string (⟨#[]⟩ : ByteArray)) := (blk_cell BK299.out 0).trans rfl; have hcz33_1 : w31.cell? ⟨gb299, 1, none⟩ = some (.string (⟨#[]⟩ : ByteArray)) := (blk_cell BK299.out 1).trans rfl; have hcz33_2 : w31.cell? ⟨gb299, 2, none⟩ = some (.string (⟨#[]⟩ : ByteArray)) := (blk_cell BK299.out 2).trans rfl; have hfz33_0 := blk_frozen BK299.out 0; have hfz33_1 := blk_frozen BK299.out 1; have hfz33_2 := blk_frozen BK299.out 2; have hcz34_0 : w31.cell? ⟨gb294, 0, none⟩ = some (.slice Ao28 t289.length co28) := (blk_cell BK294.out 0).trans rfl; have hcz34_1 : w31.cell? ⟨gb294, 1, none⟩ = some (.string t292) := (blk_cell BK294.out 1).trans rfl; have hfz34_0 := blk_frozen BK294.out 0; have hfz34_1 := blk_frozen BK294.out 1) | ((with_reducible refine gate_callee (f := 16) rfl ?_); refine goesL_ (some 16) rfl rfl Tryz.func16 (by kernel_rfl) rfl #[.agg #[.slice Ao28 t289.length co28, .string t292]] rfl am ?_; (with_reducible refine (msg_Message_Lines.calls (hG := by first | exact hG | exact Glob.below hG (by first | exact HB.out | (repeat (first | (with_reducible first | exact HB.out | apply below_alloc | apply pw_below_drewN | apply below_drew1 | refine below_set ?_ GE294.out | refine below_set ?_ GE299.out) | exact HB.out))) | exact Glob.drawn hG (by repeat (first | exact Drawn0.refl _ | apply Drawn0.step))) k _ _ t289 t292 t300 _ ?side1 ?side2 A3.out).mono ?_); (case side1 => refine (Kd.R_reads' (e := 46) (base := w.heap.size) (ok := fun k_ => True) (n := t289.length) (c := co28) ?_).2.2; exact (by (with_reducible repeat (first | apply Kd.R_alloc | apply Kd.R_drewN | apply Kd.R_drew)); exact (Kd.R_mono (Kd.R_far (p := ⟨gb299, 2, none⟩) (Kd.R_far (p := ⟨gb299, 1, none⟩) (Kd.R_far (p := ⟨gb299, 0, none⟩) (Kd.R_types HO291.out BK299.out (by decide)) (fun _ hk => hk.2) (.string t295)) (fun _ hk => hk.2) (.string t296)) (fun _ hk => hk.2) (.string t297)) (fun _ h_ => h_.1)))); (case side2 => exact (Kd.R_reads' HO291.out).2.1); rintro e w35 ⟨v301, rfl, ho0, hb⟩; refine ⟨_, rfl, ?_⟩; have n0_ := Aside0.mk (Kd.R_below (by (with_reducible repeat (first | apply Kd.R_alloc | apply Kd.R_drewN | apply Kd.R_drew)); exact (Kd.R_mono (Kd.R_far (p := ⟨gb299, 2, none⟩) (Kd.R_far (p := ⟨gb299, 1, none⟩) (Kd.R_far (p := ⟨gb299, 0, none⟩) (Kd.R_types HO291.out BK299.out (by decide)) (fun _ hk => hk.2) (.string t295)) (fun _ hk => hk.2) (.string t296)) (fun _ hk => hk.2) (.string t297)) (fun _ h_ => h_.1))) hb); have n1_ := Aside0.mk (Kd.R_lower ho0 (below_size bwS)); have n2_ := Aside0.mk (blk_below (g := gb294) (o := .cells #[.slice Ao28 t289.length co28, .string t292] 25 (0, 0)) (by (with_reducible repeat (first | refine blk_drewN ?_ _ | refine blk_drew ?_ | refine blk_alloc ?_ _)); refine blk_far ?_ NB294_299.out _; (with_reducible repeat (first | refine blk_drewN ?_ _ | refine blk_drew ?_ | refine blk_alloc ?_ _)); refine blk_far ?_ NB294_299.out _; (with_reducible repeat (first | refine blk_drewN ?_ _ | refine blk_drew ?_ | refine blk_alloc ?_ _)); refine blk_far ?_ NB294_299.out _; (with_reducible repeat (first | refine blk_drewN ?_ _ | refine blk_drew ?_ | refine blk_alloc ?_ _)); exact BK294.out) hb); have n3_ := Aside0.mk (blk_below (g := gb299) (o := .cells #[.string t295, .string t296, .string t297] 53 (0, 0)) (by (with_reducible repeat (first | refine blk_drewN ?_ _ | refine blk_drew ?_ | refine blk_alloc ?_ _)); refine blk_put (cs := #[.string t295, .string t296, .string (⟨#[]⟩ : ByteArray)]) ?_ 2 _ rfl; (with_reducible repeat (first | refine blk_drewN ?_ _ | refine blk_drew ?_ | refine blk_alloc ?_ _)); refine blk_put (cs := #[.string t295, .string (⟨#[]⟩ : ByteArray), .string (⟨#[]⟩ : ByteArray)]) ?_ 1 _ rfl; (with_reducible repeat (first | refine blk_drewN ?_ _ | refine blk_drew ?_ | refine blk_alloc ?_ _)); refine blk_put (cs := #[.string (⟨#[]⟩ : ByteArray), .string (⟨#[]⟩ : ByteArray), .string (⟨#[]⟩ : ByteArray)]) ?_ 0 _ rfl; (with_reducible repeat (first | refine blk_drewN ?_ _ | refine blk_drew ?_ | refine blk_alloc ?_ _)); exact BK299.out) hb); have n4_ := Aside0.mk (below_step bwS hb); clear HO291; clear BK294; clear BK299; clear HB; have HO291 := n0_; have HO302 := n1_; have BK294 := n2_; have BK299 := n3_; have HB := n4_; clear n0_ n1_ n2_ n3_ n4_; (try clear hb); (try clear hb2); (try clear hk); (try clear hi); (try clear ho0); have hcz36_0 : w35.cell? ⟨gb299, 0, none⟩ = some (.string t295) := (blk_cell BK299.out 0).trans rfl; have hcz36_1 : w35.cell? ⟨gb299, 1, none⟩ = some (.string t296) := (blk_cell BK299.out 1).trans rfl; have hcz36_2 : w35.cell? ⟨gb299, 2, none⟩ = some (.string t297) := (blk_cell BK299.out 2).trans rfl; have hfz36_0 := blk_frozen BK299.out 0; have hfz36_1 := blk_frozen BK299.out 1; have hfz36_2 := blk_frozen BK299.out 2; obtain ⟨Ao37, co37, eo37⟩ := Kd.R_slice HO302.out; subst eo37; have p303 : 0 ≤ (0 : Int) := (by omega); have q303 : 0 < (t300.length : Int) := od; obtain ⟨ad303, e303, hx303_0⟩ := Kd.at_string (Kd.R_reads' HO302.out).2.2 0 p303 q303; cases e303; have qi303 : (0 < t300.length) = True := eq_true (by omega); (try rw [show ((0 : Int)).toNat = 0 from rfl] at hx303_0); (try rw [Addr.add_zero'] at hx303_0); replace p303 := eq_true p303; replace q303 := eq_true q303))
        go_ret
        exact ⟨by first | rfl | (simp [errW_none, errW_some] <;> rfl) | (simp [*, errW_none, errW_some] <;> rfl), bwS⟩
      ·rw [if_neg c9] at H
       exact absurd H (by simp)
     ·rw [if_neg c8] at H
      have c8b0 : ((t300.length : Int) == 1) = false := beq_eq_false_iff_ne.mpr c8
      have c8b1 : ((t300.length : Int) != 1) = true := bne_iff_ne.mpr c8
      obtain rfl := Option.some.inj H
      go_enter Tryz.func9, Tryz.ntmps9
      go_wp2_with (first | ((with_reducible refine gate_callee (f := 10) rfl ?_); refine goesL_ (some 7) rfl rfl Tryz.func10 (by kernel_rfl) rfl #[.string (⟨#[70, 114, 111, 109, 58, 32, 65, 110, 110, 32, 60, 97, 64, 98, 62, 13, 10, 13, 10, 104, 105, 13, 10]⟩ : ByteArray)] rfl am ?_; (with_reducible refine (msg_Parse.calls (hG := by first | exact hG | exact Glob.below hG (by first | exact HB.out | (repeat (first | (with_reducible first | exact HB.out | apply below_alloc | apply pw_below_drewN | apply below_drew1 | refine below_set ?_ GE294.out | refine below_set ?_ GE299.out) | exact HB.out))) | exact Glob.drawn hG (by repeat (first | exact Drawn0.refl _ | apply Drawn0.step))) k (⟨#[70, 114, 111, 109, 58, 32, 65, 110, 110, 32, 60, 97, 64, 98, 62, 13, 10, 13, 10, 104, 105, 13, 10]⟩ : ByteArray) t289 t292 t293 _ A1.out).mono ?_); rintro e w38 ⟨v290, rfl, ho0, hb⟩; refine ⟨_, rfl, ?_⟩; have n0_ := Aside0.mk (Kd.R_lower ho0 (below_size bw)); have n1_ := Aside0.mk (below_step bw hb); clear HB; have HO291 := n0_; have HB := n1_; clear n0_ n1_; (try clear hb); (try clear hb2); (try clear hk); (try clear hi); (try clear ho0)) | ((with_reducible refine gate_dst (N := 1) rfl ?_); (try (refine gate_guard (by rfl) ?_; dsimp only)); refine box_event ?hg (N := 1) ?hd (cs := #[.slice none 0 0, .string (⟨#[]⟩ : ByteArray)]) (t := 25) ?hr ?_; (case hd => rfl); (case hg => rfl); (case hr => first | (go_simp; done) | (go_simp; rfl)); intro gb294 hg w39 hbox hb; have n0_ := Aside0.mk (Kd.R_below (by (with_reducible repeat (first | apply Kd.R_alloc | apply Kd.R_drewN | apply Kd.R_drew)); exact HO291.out) hb); have n1_ := Aside0.mk (below_step bw hb); have n2_ := Aside0.mk (hbox); have n3_ := Aside0.mk ((by rw [hg]; exact (below_size bw) : w.heap.size ≤ gb294)); have n4_ := Aside0.mk ((by rw [hg]; exact (below_size bw) : w.heap.size ≤ gb294)); clear HO291; clear HB; have HO291 := n0_; have HB := n1_; have BK294 := n2_; have GW294 := n3_; have GE294 := n4_; clear n0_ n1_ n2_ n3_ n4_; clear hb hbox hg; obtain ⟨Ao40, co40, eo40⟩ := Kd.R_slice HO291.out; subst eo40; have hcz41_0 : w39.cell? ⟨gb294, 0, none⟩ = some (.slice none 0 0) := (blk_cell BK294.out 0).trans rfl; have hcz41_1 : w39.cell? ⟨gb294, 1, none⟩ = some (.string (⟨#[]⟩ : ByteArray)) := (blk_cell BK294.out 1).trans rfl; have hfz41_0 := blk_frozen BK294.out 0; have hfz41_1 := blk_frozen BK294.out 1) | ((with_reducible refine gate_callee (f := 22) rfl ?_); refine goesL_ (some 12) rfl rfl Tryz.func22 (by kernel_rfl) rfl #[.agg #[.slice Ao40 t289.length co40, .string t292]] rfl am ?_; (with_reducible refine (msg_Message_From.calls (hG := by first | exact hG | exact Glob.below hG (by first | exact HB.out | (repeat (first | (with_reducible first | exact HB.out | apply below_alloc | apply pw_below_drewN | apply below_drew1 | refine below_set ?_ GE294.out | refine below_set ?_ GE299.out) | exact HB.out))) | exact Glob.drawn hG (by repeat (first | exact Drawn0.refl _ | apply Drawn0.step))) k _ _ t289 t292 t295 t296 t297 t298 _ ?side1 ?side2 A2.out).mono ?_); (case side1 => refine (Kd.R_reads' (e := 46) (base := w.heap.size) (ok := fun k_ => True) (n := t289.length) (c := co40) ?_).2.2; exact (by (with_reducible repeat (first | apply Kd.R_alloc | apply Kd.R_drewN | apply Kd.R_drew)); exact (Kd.R_mono (Kd.R_far (p := ⟨gb294, 1, none⟩) (Kd.R_far (p := ⟨gb294, 0, none⟩) (Kd.R_types HO291.out BK294.out (by decide)) (fun _ hk => hk.2) (.slice Ao40 t289.length co40)) (fun _ hk => hk.2) (.string t292)) (fun _ h_ => h_.1)))); (case side2 => exact (Kd.R_reads' HO291.out).2.1); rintro e w42 ⟨rfl, hb⟩; refine ⟨_, rfl, ?_⟩; have n0_ := Aside0.mk (Kd.R_below (by (with_reducible repeat (first | apply Kd.R_alloc | apply Kd.R_drewN | apply Kd.R_drew)); exact (Kd.R_mono (Kd.R_far (p := ⟨gb294, 1, none⟩) (Kd.R_far (p := ⟨gb294, 0, none⟩) (Kd.R_types HO291.out BK294.out (by decide)) (fun _ hk => hk.2) (.slice Ao40 t289.length co40)) (fun _ hk => hk.2) (.string t292)) (fun _ h_ => h_.1))) hb); have n1_ := Aside0.mk (blk_below (g := gb294) (o := .cells #[.slice Ao40 t289.length co40, .string t292] 25 (0, 0)) (by (with_reducible repeat (first | refine blk_drewN ?_ _ | refine blk_drew ?_ | refine blk_alloc ?_ _)); refine blk_put (cs := #[.slice Ao40 t289.length co40, .string (⟨#[]⟩ : ByteArray)]) ?_ 1 _ rfl; (with_reducible repeat (first | refine blk_drewN ?_ _ | refine blk_drew ?_ | refine blk_alloc ?_ _)); refine blk_put (cs := #[.slice none 0 0, .string (⟨#[]⟩ : ByteArray)]) ?_ 0 _ rfl; (with_reducible repeat (first | refine blk_drewN ?_ _ | refine blk_drew ?_ | refine blk_alloc ?_ _)); exact BK294.out) hb); have n2_ := Aside0.mk (below_step bwS hb); clear HO291; clear BK294; clear HB; have HO291 := n0_; have BK294 := n1_; have HB := n2_; clear n0_ n1_ n2_; (try clear hb); (try clear hb2); (try clear hk); (try clear hi)) | ((with_reducible refine gate_dst (N := 3) rfl ?_); (try (refine gate_guard (by rfl) ?_; dsimp only)); refine box_event ?hg (N := 3) ?hd (cs := #[.string (⟨#[]⟩ : ByteArray), .string (⟨#[]⟩ : ByteArray), .string (⟨#[]⟩ : ByteArray)]) (t := 53) ?hr ?_; (case hd => rfl); (case hg => rfl); (case hr => first | (go_simp; done) | (go_simp; rfl)); intro gb299 hg w43 hbox hb; have n0_ := Aside0.mk (Kd.R_below (by (with_reducible repeat (first | apply Kd.R_alloc | apply Kd.R_drewN | apply Kd.R_drew)); exact HO291.out) hb); have n1_ := Aside0.mk (blk_below (g := gb294) (o := .cells #[.slice Ao40 t289.length co40, .string t292] 25 (0, 0)) bk hb); have n2_ := Aside0.mk (below_step bwS hb); have n3_ := Aside0.mk (hbox); have n4_ := Aside0.mk ((by rw [hg]; exact (below_size bwS) : w.heap.size ≤ gb299)); have n5_ := Aside0.mk ((by rw [hg]; exact (below_size bwS) : w.heap.size ≤ gb299)); have n6_ := Aside0.mk ((by rw [hg]; exact Nat.ne_of_lt (blk_lt (g := gb294) (o := .cells #[.slice Ao40 t289.length co40, .string t292] 25 (0, 0)) bk) : gb294 ≠ gb299)); have n7_ := Aside0.mk ((by rw [hg]; exact Nat.ne_of_gt (blk_lt (g := gb294) (o := .cells #[.slice Ao40 t289.length co40, .string t292] 25 (0, 0)) bk) : gb299 ≠ gb294)); clear HO291; clear BK294; clear HB; have HO291 := n0_; have BK294 := n1_; have HB := n2_; have BK299 := n3_; have GW299 := n4_; have GE299 := n5_; have NB294_299 := n6_; have NB299_294 := n7_; clear n0_ n1_ n2_ n3_ n4_ n5_ n6_ n7_; clear hb hbox hg; have hnb44 := NB299_294.out; have hnc44 := NB294_299.out; have hcz45_0 : w43.cell? ⟨gb299, 0, none⟩ = some (.string (⟨#[]⟩ : ByteArray)) := (blk_cell BK299.out 0).trans rfl; have hcz45_1 : w43.cell? ⟨gb299, 1, none⟩ = some (.string (⟨#[]⟩ : ByteArray)) := (blk_cell BK299.out 1).trans rfl; have hcz45_2 : w43.cell? ⟨gb299, 2, none⟩ = some (.string (⟨#[]⟩ : ByteArray)) := (blk_cell BK299.out 2).trans rfl; have hfz45_0 := blk_frozen BK299.out 0; have hfz45_1 := blk_frozen BK299.out 1; have hfz45_2 := blk_frozen BK299.out 2; have hcz46_0 : w43.cell? ⟨gb294, 0, none⟩ = some (.slice Ao40 t289.length co40) := (blk_cell BK294.out 0).trans rfl; have hcz46_1 : w43.cell? ⟨gb294, 1, none⟩ = some (.string t292) := (blk_cell BK294.out 1).trans rfl; have hfz46_0 := blk_frozen BK294.out 0; have hfz46_1 := blk_frozen BK294.out 1) | ((with_reducible refine gate_callee (f := 16) rfl ?_); refine goesL_ (some 16) rfl rfl Tryz.func16 (by kernel_rfl) rfl #[.agg #[.slice Ao40 t289.length co40, .string t292]] rfl am ?_; (with_reducible refine (msg_Message_Lines.calls (hG := by first | exact hG | exact Glob.below hG (by first | exact HB.out | (repeat (first | (with_reducible first | exact HB.out | apply below_alloc | apply pw_below_drewN | apply below_drew1 | refine below_set ?_ GE294.out | refine below_set ?_ GE299.out) | exact HB.out))) | exact Glob.drawn hG (by repeat (first | exact Drawn0.refl _ | apply Drawn0.step))) k _ _ t289 t292 t300 _ ?side1 ?side2 A3.out).mono ?_); (case side1 => refine (Kd.R_reads' (e := 46) (base := w.heap.size) (ok := fun k_ => True) (n := t289.length) (c := co40) ?_).2.2; exact (by (with_reducible repeat (first | apply Kd.R_alloc | apply Kd.R_drewN | apply Kd.R_drew)); exact (Kd.R_mono (Kd.R_far (p := ⟨gb299, 2, none⟩) (Kd.R_far (p := ⟨gb299, 1, none⟩) (Kd.R_far (p := ⟨gb299, 0, none⟩) (Kd.R_types HO291.out BK299.out (by decide)) (fun _ hk => hk.2) (.string t295)) (fun _ hk => hk.2) (.string t296)) (fun _ hk => hk.2) (.string t297)) (fun _ h_ => h_.1)))); (case side2 => exact (Kd.R_reads' HO291.out).2.1); rintro e w47 ⟨v301, rfl, ho0, hb⟩; refine ⟨_, rfl, ?_⟩; have n0_ := Aside0.mk (Kd.R_below (by (with_reducible repeat (first | apply Kd.R_alloc | apply Kd.R_drewN | apply Kd.R_drew)); exact (Kd.R_mono (Kd.R_far (p := ⟨gb299, 2, none⟩) (Kd.R_far (p := ⟨gb299, 1, none⟩) (Kd.R_far (p := ⟨gb299, 0, none⟩) (Kd.R_types HO291.out BK299.out (by decide)) (fun _ hk => hk.2) (.string t295)) (fun _ hk => hk.2) (.string t296)) (fun _ hk => hk.2) (.string t297)) (fun _ h_ => h_.1))) hb); have n1_ := Aside0.mk (Kd.R_lower ho0 (below_size bwS)); have n2_ := Aside0.mk (blk_below (g := gb294) (o := .cells #[.slice Ao40 t289.length co40, .string t292] 25 (0, 0)) (by (with_reducible repeat (first | refine blk_drewN ?_ _ | refine blk_drew ?_ | refine blk_alloc ?_ _)); refine blk_far ?_ NB294_299.out _; (with_reducible repeat (first | refine blk_drewN ?_ _ | refine blk_drew ?_ | refine blk_alloc ?_ _)); refine blk_far ?_ NB294_299.out _; (with_reducible repeat (first | refine blk_drewN ?_ _ | refine blk_drew ?_ | refine blk_alloc ?_ _)); refine blk_far ?_ NB294_299.out _; (with_reducible repeat (first | refine blk_drewN ?_ _ | refine blk_drew ?_ | refine blk_alloc ?_ _)); exact BK294.out) hb); have n3_ := Aside0.mk (blk_below (g := gb299) (o := .cells #[.string t295, .string t296, .string t297] 53 (0, 0)) (by (with_reducible repeat (first | refine blk_drewN ?_ _ | refine blk_drew ?_ | refine blk_alloc ?_ _)); refine blk_put (cs := #[.string t295, .string t296, .string (⟨#[]⟩ : ByteArray)]) ?_ 2 _ rfl; (with_reducible repeat (first | refine blk_drewN ?_ _ | refine blk_drew ?_ | refine blk_alloc ?_ _)); refine blk_put (cs := #[.string t295, .string (⟨#[]⟩ : ByteArray), .string (⟨#[]⟩ : ByteArray)]) ?_ 1 _ rfl; (with_reducible repeat (first | refine blk_drewN ?_ _ | refine blk_drew ?_ | refine blk_alloc ?_ _)); refine blk_put (cs := #[.string (⟨#[]⟩ : ByteArray), .string (⟨#[]⟩ : ByteArray), .string (⟨#[]⟩ : ByteArray)]) ?_ 0 _ rfl; (with_reducible repeat (first | refine blk_drewN ?_ _ | refine blk_drew ?_ | refine blk_alloc ?_ _)); exact BK299.out) hb); have n4_ := Aside0.mk (below_step bwS hb); clear HO291; clear BK294; clear BK299; clear HB; have HO291 := n0_; have HO302 := n1_; have BK294 := n2_; have BK299 := n3_; have HB := n4_; clear n0_ n1_ n2_ n3_ n4_; (try clear hb); (try clear hb2); (try clear hk); (try clear hi); (try clear ho0); have hcz48_0 : w47.cell? ⟨gb299, 0, none⟩ = some (.string t295) := (blk_cell BK299.out 0).trans rfl; have hcz48_1 : w47.cell? ⟨gb299, 1, none⟩ = some (.string t296) := (blk_cell BK299.out 1).trans rfl; have hcz48_2 : w47.cell? ⟨gb299, 2, none⟩ = some (.string t297) := (blk_cell BK299.out 2).trans rfl; have hfz48_0 := blk_frozen BK299.out 0; have hfz48_1 := blk_frozen BK299.out 1; have hfz48_2 := blk_frozen BK299.out 2; obtain ⟨Ao49, co49, eo49⟩ := Kd.R_slice HO302.out; subst eo49))
      go_ret
      exact ⟨by first | rfl | (simp [errW_none, errW_some] <;> rfl) | (simp [*, errW_none, errW_some] <;> rfl), bwS⟩
    ·rw [if_neg c7] at H
     have c7b0 : (t296.toList == ([97] : List UInt8)) = false := beq_eq_false_iff_ne.mpr c7
     have c7b1 : (t296.toList != ([97] : List UInt8)) = true := bne_iff_ne.mpr c7
     obtain rfl := Option.some.inj H
     go_enter Tryz.func9, Tryz.ntmps9
     go_wp2_with (first | ((with_reducible refine gate_callee (f := 10) rfl ?_); refine goesL_ (some 7) rfl rfl Tryz.func10 (by kernel_rfl) rfl #[.string (⟨#[70, 114, 111, 109, 58, 32, 65, 110, 110, 32, 60, 97, 64, 98, 62, 13, 10, 13, 10, 104, 105, 13, 10]⟩ : ByteArray)] rfl am ?_; (with_reducible refine (msg_Parse.calls (hG := by first | exact hG | exact Glob.below hG (by first | exact HB.out | (repeat (first | (with_reducible first | exact HB.out | apply below_alloc | apply pw_below_drewN | apply below_drew1 | refine below_set ?_ GE294.out | refine below_set ?_ GE299.out) | exact HB.out))) | exact Glob.drawn hG (by repeat (first | exact Drawn0.refl _ | apply Drawn0.step))) k (⟨#[70, 114, 111, 109, 58, 32, 65, 110, 110, 32, 60, 97, 64, 98, 62, 13, 10, 13, 10, 104, 105, 13, 10]⟩ : ByteArray) t289 t292 t293 _ A1.out).mono ?_); rintro e w50 ⟨v290, rfl, ho0, hb⟩; refine ⟨_, rfl, ?_⟩; have n0_ := Aside0.mk (Kd.R_lower ho0 (below_size bw)); have n1_ := Aside0.mk (below_step bw hb); clear HB; have HO291 := n0_; have HB := n1_; clear n0_ n1_; (try clear hb); (try clear hb2); (try clear hk); (try clear hi); (try clear ho0)) | ((with_reducible refine gate_dst (N := 1) rfl ?_); (try (refine gate_guard (by rfl) ?_; dsimp only)); refine box_event ?hg (N := 1) ?hd (cs := #[.slice none 0 0, .string (⟨#[]⟩ : ByteArray)]) (t := 25) ?hr ?_; (case hd => rfl); (case hg => rfl); (case hr => first | (go_simp; done) | (go_simp; rfl)); intro gb294 hg w51 hbox hb; have n0_ := Aside0.mk (Kd.R_below (by (with_reducible repeat (first | apply Kd.R_alloc | apply Kd.R_drewN | apply Kd.R_drew)); exact HO291.out) hb); have n1_ := Aside0.mk (below_step bw hb); have n2_ := Aside0.mk (hbox); have n3_ := Aside0.mk ((by rw [hg]; exact (below_size bw) : w.heap.size ≤ gb294)); have n4_ := Aside0.mk ((by rw [hg]; exact (below_size bw) : w.heap.size ≤ gb294)); clear HO291; clear HB; have HO291 := n0_; have HB := n1_; have BK294 := n2_; have GW294 := n3_; have GE294 := n4_; clear n0_ n1_ n2_ n3_ n4_; clear hb hbox hg; obtain ⟨Ao52, co52, eo52⟩ := Kd.R_slice HO291.out; subst eo52; have hcz53_0 : w51.cell? ⟨gb294, 0, none⟩ = some (.slice none 0 0) := (blk_cell BK294.out 0).trans rfl; have hcz53_1 : w51.cell? ⟨gb294, 1, none⟩ = some (.string (⟨#[]⟩ : ByteArray)) := (blk_cell BK294.out 1).trans rfl; have hfz53_0 := blk_frozen BK294.out 0; have hfz53_1 := blk_frozen BK294.out 1) | ((with_reducible refine gate_callee (f := 22) rfl ?_); refine goesL_ (some 12) rfl rfl Tryz.func22 (by kernel_rfl) rfl #[.agg #[.slice Ao52 t289.length co52, .string t292]] rfl am ?_; (with_reducible refine (msg_Message_From.calls (hG := by first | exact hG | exact Glob.below hG (by first | exact HB.out | (repeat (first | (with_reducible first | exact HB.out | apply below_alloc | apply pw_below_drewN | apply below_drew1 | refine below_set ?_ GE294.out | refine below_set ?_ GE299.out) | exact HB.out))) | exact Glob.drawn hG (by repeat (first | exact Drawn0.refl _ | apply Drawn0.step))) k _ _ t289 t292 t295 t296 t297 t298 _ ?side1 ?side2 A2.out).mono ?_); (case side1 => refine (Kd.R_reads' (e := 46) (base := w.heap.size) (ok := fun k_ => True) (n := t289.length) (c := co52) ?_).2.2; exact (by (with_reducible repeat (first | apply Kd.R_alloc | apply Kd.R_drewN | apply Kd.R_drew)); exact (Kd.R_mono (Kd.R_far (p := ⟨gb294, 1, none⟩) (Kd.R_far (p := ⟨gb294, 0, none⟩) (Kd.R_types HO291.out BK294.out (by decide)) (fun _ hk => hk.2) (.slice Ao52 t289.length co52)) (fun _ hk => hk.2) (.string t292)) (fun _ h_ => h_.1)))); (case side2 => exact (Kd.R_reads' HO291.out).2.1); rintro e w54 ⟨rfl, hb⟩; refine ⟨_, rfl, ?_⟩; have n0_ := Aside0.mk (Kd.R_below (by (with_reducible repeat (first | apply Kd.R_alloc | apply Kd.R_drewN | apply Kd.R_drew)); exact (Kd.R_mono (Kd.R_far (p := ⟨gb294, 1, none⟩) (Kd.R_far (p := ⟨gb294, 0, none⟩) (Kd.R_types HO291.out BK294.out (by decide)) (fun _ hk => hk.2) (.slice Ao52 t289.length co52)) (fun _ hk => hk.2) (.string t292)) (fun _ h_ => h_.1))) hb); have n1_ := Aside0.mk (blk_below (g := gb294) (o := .cells #[.slice Ao52 t289.length co52, .string t292] 25 (0, 0)) (by (with_reducible repeat (first | refine blk_drewN ?_ _ | refine blk_drew ?_ | refine blk_alloc ?_ _)); refine blk_put (cs := #[.slice Ao52 t289.length co52, .string (⟨#[]⟩ : ByteArray)]) ?_ 1 _ rfl; (with_reducible repeat (first | refine blk_drewN ?_ _ | refine blk_drew ?_ | refine blk_alloc ?_ _)); refine blk_put (cs := #[.slice none 0 0, .string (⟨#[]⟩ : ByteArray)]) ?_ 0 _ rfl; (with_reducible repeat (first | refine blk_drewN ?_ _ | refine blk_drew ?_ | refine blk_alloc ?_ _)); exact BK294.out) hb); have n2_ := Aside0.mk (below_step bwS hb); clear HO291; clear BK294; clear HB; have HO291 := n0_; have BK294 := n1_; have HB := n2_; clear n0_ n1_ n2_; (try clear hb); (try clear hb2); (try clear hk); (try clear hi)) | ((with_reducible refine gate_dst (N := 3) rfl ?_); (try (refine gate_guard (by rfl) ?_; dsimp only)); refine box_event ?hg (N := 3) ?hd (cs := #[.string (⟨#[]⟩ : ByteArray), .string (⟨#[]⟩ : ByteArray), .string (⟨#[]⟩ : ByteArray)]) (t := 53) ?hr ?_; (case hd => rfl); (case hg => rfl); (case hr => first | (go_simp; done) | (go_simp; rfl)); intro gb299 hg w55 hbox hb; have n0_ := Aside0.mk (Kd.R_below (by (with_reducible repeat (first | apply Kd.R_alloc | apply Kd.R_drewN | apply Kd.R_drew)); exact HO291.out) hb); have n1_ := Aside0.mk (blk_below (g := gb294) (o := .cells #[.slice Ao52 t289.length co52, .string t292] 25 (0, 0)) bk hb); have n2_ := Aside0.mk (below_step bwS hb); have n3_ := Aside0.mk (hbox); have n4_ := Aside0.mk ((by rw [hg]; exact (below_size bwS) : w.heap.size ≤ gb299)); have n5_ := Aside0.mk ((by rw [hg]; exact (below_size bwS) : w.heap.size ≤ gb299)); have n6_ := Aside0.mk ((by rw [hg]; exact Nat.ne_of_lt (blk_lt (g := gb294) (o := .cells #[.slice Ao52 t289.length co52, .string t292] 25 (0, 0)) bk) : gb294 ≠ gb299)); have n7_ := Aside0.mk ((by rw [hg]; exact Nat.ne_of_gt (blk_lt (g := gb294) (o := .cells #[.slice Ao52 t289.length co52, .string t292] 25 (0, 0)) bk) : gb299 ≠ gb294)); clear HO291; clear BK294; clear HB; have HO291 := n0_; have BK294 := n1_; have HB := n2_; have BK299 := n3_; have GW299 := n4_; have GE299 := n5_; have NB294_299 := n6_; have NB299_294 := n7_; clear n0_ n1_ n2_ n3_ n4_ n5_ n6_ n7_; clear hb hbox hg; have hnb56 := NB299_294.out; have hnc56 := NB294_299.out; have hcz57_0 : w55.cell? ⟨gb299, 0, none⟩ = some (.string (⟨#[]⟩ : ByteArray)) := (blk_cell BK299.out 0).trans rfl; have hcz57_1 : w55.cell? ⟨gb299, 1, none⟩ = some (.string (⟨#[]⟩ : ByteArray)) := (blk_cell BK299.out 1).trans rfl; have hcz57_2 : w55.cell? ⟨gb299, 2, none⟩ = some (.string (⟨#[]⟩ : ByteArray)) := (blk_cell BK299.out 2).trans rfl; have hfz57_0 := blk_frozen BK299.out 0; have hfz57_1 := blk_frozen BK299.out 1; have hfz57_2 := blk_frozen BK299.out 2; have hcz58_0 : w55.cell? ⟨gb294, 0, none⟩ = some (.slice Ao52 t289.length co52) := (blk_cell BK294.out 0).trans rfl; have hcz58_1 : w55.cell? ⟨gb294, 1, none⟩ = some (.string t292) := (blk_cell BK294.out 1).trans rfl; have hfz58_0 := blk_frozen BK294.out 0; have hfz58_1 := blk_frozen BK294.out 1) | ((with_reducible refine gate_callee (f := 16) rfl ?_); refine goesL_ (some 16) rfl rfl Tryz.func16 (by kernel_rfl) rfl #[.agg #[.slice Ao52 t289.length co52, .string t292]] rfl am ?_; (with_reducible refine (msg_Message_Lines.calls (hG := by first | exact hG | exact Glob.below hG (by first | exact HB.out | (repeat (first | (with_reducible first | exact HB.out | apply below_alloc | apply pw_below_drewN | apply below_drew1 | refine below_set ?_ GE294.out | refine below_set ?_ GE299.out) | exact HB.out))) | exact Glob.drawn hG (by repeat (first | exact Drawn0.refl _ | apply Drawn0.step))) k _ _ t289 t292 t300 _ ?side1 ?side2 A3.out).mono ?_); (case side1 => refine (Kd.R_reads' (e := 46) (base := w.heap.size) (ok := fun k_ => True) (n := t289.length) (c := co52) ?_).2.2; exact (by (with_reducible repeat (first | apply Kd.R_alloc | apply Kd.R_drewN | apply Kd.R_drew)); exact (Kd.R_mono (Kd.R_far (p := ⟨gb299, 2, none⟩) (Kd.R_far (p := ⟨gb299, 1, none⟩) (Kd.R_far (p := ⟨gb299, 0, none⟩) (Kd.R_types HO291.out BK299.out (by decide)) (fun _ hk => hk.2) (.string t295)) (fun _ hk => hk.2) (.string t296)) (fun _ hk => hk.2) (.string t297)) (fun _ h_ => h_.1)))); (case side2 => exact (Kd.R_reads' HO291.out).2.1); rintro e w59 ⟨v301, rfl, ho0, hb⟩; refine ⟨_, rfl, ?_⟩; have n0_ := Aside0.mk (Kd.R_below (by (with_reducible repeat (first | apply Kd.R_alloc | apply Kd.R_drewN | apply Kd.R_drew)); exact (Kd.R_mono (Kd.R_far (p := ⟨gb299, 2, none⟩) (Kd.R_far (p := ⟨gb299, 1, none⟩) (Kd.R_far (p := ⟨gb299, 0, none⟩) (Kd.R_types HO291.out BK299.out (by decide)) (fun _ hk => hk.2) (.string t295)) (fun _ hk => hk.2) (.string t296)) (fun _ hk => hk.2) (.string t297)) (fun _ h_ => h_.1))) hb); have n1_ := Aside0.mk (Kd.R_lower ho0 (below_size bwS)); have n2_ := Aside0.mk (blk_below (g := gb294) (o := .cells #[.slice Ao52 t289.length co52, .string t292] 25 (0, 0)) (by (with_reducible repeat (first | refine blk_drewN ?_ _ | refine blk_drew ?_ | refine blk_alloc ?_ _)); refine blk_far ?_ NB294_299.out _; (with_reducible repeat (first | refine blk_drewN ?_ _ | refine blk_drew ?_ | refine blk_alloc ?_ _)); refine blk_far ?_ NB294_299.out _; (with_reducible repeat (first | refine blk_drewN ?_ _ | refine blk_drew ?_ | refine blk_alloc ?_ _)); refine blk_far ?_ NB294_299.out _; (with_reducible repeat (first | refine blk_drewN ?_ _ | refine blk_drew ?_ | refine blk_alloc ?_ _)); exact BK294.out) hb); have n3_ := Aside0.mk (blk_below (g := gb299) (o := .cells #[.string t295, .string t296, .string t297] 53 (0, 0)) (by (with_reducible repeat (first | refine blk_drewN ?_ _ | refine blk_drew ?_ | refine blk_alloc ?_ _)); refine blk_put (cs := #[.string t295, .string t296, .string (⟨#[]⟩ : ByteArray)]) ?_ 2 _ rfl; (with_reducible repeat (first | refine blk_drewN ?_ _ | refine blk_drew ?_ | refine blk_alloc ?_ _)); refine blk_put (cs := #[.string t295, .string (⟨#[]⟩ : ByteArray), .string (⟨#[]⟩ : ByteArray)]) ?_ 1 _ rfl; (with_reducible repeat (first | refine blk_drewN ?_ _ | refine blk_drew ?_ | refine blk_alloc ?_ _)); refine blk_put (cs := #[.string (⟨#[]⟩ : ByteArray), .string (⟨#[]⟩ : ByteArray), .string (⟨#[]⟩ : ByteArray)]) ?_ 0 _ rfl; (with_reducible repeat (first | refine blk_drewN ?_ _ | refine blk_drew ?_ | refine blk_alloc ?_ _)); exact BK299.out) hb); have n4_ := Aside0.mk (below_step bwS hb); clear HO291; clear BK294; clear BK299; clear HB; have HO291 := n0_; have HO302 := n1_; have BK294 := n2_; have BK299 := n3_; have HB := n4_; clear n0_ n1_ n2_ n3_ n4_; (try clear hb); (try clear hb2); (try clear hk); (try clear hi); (try clear ho0); have hcz60_0 : w59.cell? ⟨gb299, 0, none⟩ = some (.string t295) := (blk_cell BK299.out 0).trans rfl; have hcz60_1 : w59.cell? ⟨gb299, 1, none⟩ = some (.string t296) := (blk_cell BK299.out 1).trans rfl; have hcz60_2 : w59.cell? ⟨gb299, 2, none⟩ = some (.string t297) := (blk_cell BK299.out 2).trans rfl; have hfz60_0 := blk_frozen BK299.out 0; have hfz60_1 := blk_frozen BK299.out 1; have hfz60_2 := blk_frozen BK299.out 2))
     go_ret
     exact ⟨by first | rfl | (simp [errW_none, errW_some] <;> rfl) | (simp [*, errW_none, errW_some] <;> rfl), bwS⟩
   ·rw [if_neg c6] at H
    have c6b0 : (t295.toList == ([65, 110, 110] : List UInt8)) = false := beq_eq_false_iff_ne.mpr c6
    have c6b1 : (t295.toList != ([65, 110, 110] : List UInt8)) = true := bne_iff_ne.mpr c6
    obtain rfl := Option.some.inj H
    go_enter Tryz.func9, Tryz.ntmps9
    go_wp2_with (first | ((with_reducible refine gate_callee (f := 10) rfl ?_); refine goesL_ (some 7) rfl rfl Tryz.func10 (by kernel_rfl) rfl #[.string (⟨#[70, 114, 111, 109, 58, 32, 65, 110, 110, 32, 60, 97, 64, 98, 62, 13, 10, 13, 10, 104, 105, 13, 10]⟩ : ByteArray)] rfl am ?_; (with_reducible refine (msg_Parse.calls (hG := by first | exact hG | exact Glob.below hG (by first | exact HB.out | (repeat (first | (with_reducible first | exact HB.out | apply below_alloc | apply pw_below_drewN | apply below_drew1 | refine below_set ?_ GE294.out | refine below_set ?_ GE299.out) | exact HB.out))) | exact Glob.drawn hG (by repeat (first | exact Drawn0.refl _ | apply Drawn0.step))) k (⟨#[70, 114, 111, 109, 58, 32, 65, 110, 110, 32, 60, 97, 64, 98, 62, 13, 10, 13, 10, 104, 105, 13, 10]⟩ : ByteArray) t289 t292 t293 _ A1.out).mono ?_); rintro e w61 ⟨v290, rfl, ho0, hb⟩; refine ⟨_, rfl, ?_⟩; have n0_ := Aside0.mk (Kd.R_lower ho0 (below_size bw)); have n1_ := Aside0.mk (below_step bw hb); clear HB; have HO291 := n0_; have HB := n1_; clear n0_ n1_; (try clear hb); (try clear hb2); (try clear hk); (try clear hi); (try clear ho0)) | ((with_reducible refine gate_dst (N := 1) rfl ?_); (try (refine gate_guard (by rfl) ?_; dsimp only)); refine box_event ?hg (N := 1) ?hd (cs := #[.slice none 0 0, .string (⟨#[]⟩ : ByteArray)]) (t := 25) ?hr ?_; (case hd => rfl); (case hg => rfl); (case hr => first | (go_simp; done) | (go_simp; rfl)); intro gb294 hg w62 hbox hb; have n0_ := Aside0.mk (Kd.R_below (by (with_reducible repeat (first | apply Kd.R_alloc | apply Kd.R_drewN | apply Kd.R_drew)); exact HO291.out) hb); have n1_ := Aside0.mk (below_step bw hb); have n2_ := Aside0.mk (hbox); have n3_ := Aside0.mk ((by rw [hg]; exact (below_size bw) : w.heap.size ≤ gb294)); have n4_ := Aside0.mk ((by rw [hg]; exact (below_size bw) : w.heap.size ≤ gb294)); clear HO291; clear HB; have HO291 := n0_; have HB := n1_; have BK294 := n2_; have GW294 := n3_; have GE294 := n4_; clear n0_ n1_ n2_ n3_ n4_; clear hb hbox hg; obtain ⟨Ao63, co63, eo63⟩ := Kd.R_slice HO291.out; subst eo63; have hcz64_0 : w62.cell? ⟨gb294, 0, none⟩ = some (.slice none 0 0) := (blk_cell BK294.out 0).trans rfl; have hcz64_1 : w62.cell? ⟨gb294, 1, none⟩ = some (.string (⟨#[]⟩ : ByteArray)) := (blk_cell BK294.out 1).trans rfl; have hfz64_0 := blk_frozen BK294.out 0; have hfz64_1 := blk_frozen BK294.out 1) | ((with_reducible refine gate_callee (f := 22) rfl ?_); refine goesL_ (some 12) rfl rfl Tryz.func22 (by kernel_rfl) rfl #[.agg #[.slice Ao63 t289.length co63, .string t292]] rfl am ?_; (with_reducible refine (msg_Message_From.calls (hG := by first | exact hG | exact Glob.below hG (by first | exact HB.out | (repeat (first | (with_reducible first | exact HB.out | apply below_alloc | apply pw_below_drewN | apply below_drew1 | refine below_set ?_ GE294.out | refine below_set ?_ GE299.out) | exact HB.out))) | exact Glob.drawn hG (by repeat (first | exact Drawn0.refl _ | apply Drawn0.step))) k _ _ t289 t292 t295 t296 t297 t298 _ ?side1 ?side2 A2.out).mono ?_); (case side1 => refine (Kd.R_reads' (e := 46) (base := w.heap.size) (ok := fun k_ => True) (n := t289.length) (c := co63) ?_).2.2; exact (by (with_reducible repeat (first | apply Kd.R_alloc | apply Kd.R_drewN | apply Kd.R_drew)); exact (Kd.R_mono (Kd.R_far (p := ⟨gb294, 1, none⟩) (Kd.R_far (p := ⟨gb294, 0, none⟩) (Kd.R_types HO291.out BK294.out (by decide)) (fun _ hk => hk.2) (.slice Ao63 t289.length co63)) (fun _ hk => hk.2) (.string t292)) (fun _ h_ => h_.1)))); (case side2 => exact (Kd.R_reads' HO291.out).2.1); rintro e w65 ⟨rfl, hb⟩; refine ⟨_, rfl, ?_⟩; have n0_ := Aside0.mk (Kd.R_below (by (with_reducible repeat (first | apply Kd.R_alloc | apply Kd.R_drewN | apply Kd.R_drew)); exact (Kd.R_mono (Kd.R_far (p := ⟨gb294, 1, none⟩) (Kd.R_far (p := ⟨gb294, 0, none⟩) (Kd.R_types HO291.out BK294.out (by decide)) (fun _ hk => hk.2) (.slice Ao63 t289.length co63)) (fun _ hk => hk.2) (.string t292)) (fun _ h_ => h_.1))) hb); have n1_ := Aside0.mk (blk_below (g := gb294) (o := .cells #[.slice Ao63 t289.length co63, .string t292] 25 (0, 0)) (by (with_reducible repeat (first | refine blk_drewN ?_ _ | refine blk_drew ?_ | refine blk_alloc ?_ _)); refine blk_put (cs := #[.slice Ao63 t289.length co63, .string (⟨#[]⟩ : ByteArray)]) ?_ 1 _ rfl; (with_reducible repeat (first | refine blk_drewN ?_ _ | refine blk_drew ?_ | refine blk_alloc ?_ _)); refine blk_put (cs := #[.slice none 0 0, .string (⟨#[]⟩ : ByteArray)]) ?_ 0 _ rfl; (with_reducible repeat (first | refine blk_drewN ?_ _ | refine blk_drew ?_ | refine blk_alloc ?_ _)); exact BK294.out) hb); have n2_ := Aside0.mk (below_step bwS hb); clear HO291; clear BK294; clear HB; have HO291 := n0_; have BK294 := n1_; have HB := n2_; clear n0_ n1_ n2_; (try clear hb); (try clear hb2); (try clear hk); (try clear hi)) | ((with_reducible refine gate_dst (N := 3) rfl ?_); (try (refine gate_guard (by rfl) ?_; dsimp only)); refine box_event ?hg (N := 3) ?hd (cs := #[.string (⟨#[]⟩ : ByteArray), .string (⟨#[]⟩ : ByteArray), .string (⟨#[]⟩ : ByteArray)]) (t := 53) ?hr ?_; (case hd => rfl); (case hg => rfl); (case hr => first | (go_simp; done) | (go_simp; rfl)); intro gb299 hg w66 hbox hb; have n0_ := Aside0.mk (Kd.R_below (by (with_reducible repeat (first | apply Kd.R_alloc | apply Kd.R_drewN | apply Kd.R_drew)); exact HO291.out) hb); have n1_ := Aside0.mk (blk_below (g := gb294) (o := .cells #[.slice Ao63 t289.length co63, .string t292] 25 (0, 0)) bk hb); have n2_ := Aside0.mk (below_step bwS hb); have n3_ := Aside0.mk (hbox); have n4_ := Aside0.mk ((by rw [hg]; exact (below_size bwS) : w.heap.size ≤ gb299)); have n5_ := Aside0.mk ((by rw [hg]; exact (below_size bwS) : w.heap.size ≤ gb299)); have n6_ := Aside0.mk ((by rw [hg]; exact Nat.ne_of_lt (blk_lt (g := gb294) (o := .cells #[.slice Ao63 t289.length co63, .string t292] 25 (0, 0)) bk) : gb294 ≠ gb299)); have n7_ := Aside0.mk ((by rw [hg]; exact Nat.ne_of_gt (blk_lt (g := gb294) (o := .cells #[.slice Ao63 t289.length co63, .string t292] 25 (0, 0)) bk) : gb299 ≠ gb294)); clear HO291; clear BK294; clear HB; have HO291 := n0_; have BK294 := n1_; have HB := n2_; have BK299 := n3_; have GW299 := n4_; have GE299 := n5_; have NB294_299 := n6_; have NB299_294 := n7_; clear n0_ n1_ n2_ n3_ n4_ n5_ n6_ n7_; clear hb hbox hg; have hnb67 := NB299_294.out; have hnc67 := NB294_299.out; have hcz68_0 : w66.cell? ⟨gb299, 0, none⟩ = some (.string (⟨#[]⟩ : ByteArray)) := (blk_cell BK299.out 0).trans rfl; have hcz68_1 : w66.cell? ⟨gb299, 1, none⟩ = some (.string (⟨#[]⟩ : ByteArray)) := (blk_cell BK299.out 1).trans rfl; have hcz68_2 : w66.cell? ⟨gb299, 2, none⟩ = some (.string (⟨#[]⟩ : ByteArray)) := (blk_cell BK299.out 2).trans rfl; have hfz68_0 := blk_frozen BK299.out 0; have hfz68_1 := blk_frozen BK299.out 1; have hfz68_2 := blk_frozen BK299.out 2; have hcz69_0 : w66.cell? ⟨gb294, 0, none⟩ = some (.slice Ao63 t289.length co63) := (blk_cell BK294.out 0).trans rfl; have hcz69_1 : w66.cell? ⟨gb294, 1, none⟩ = some (.string t292) := (blk_cell BK294.out 1).trans rfl; have hfz69_0 := blk_frozen BK294.out 0; have hfz69_1 := blk_frozen BK294.out 1) | ((with_reducible refine gate_callee (f := 16) rfl ?_); refine goesL_ (some 16) rfl rfl Tryz.func16 (by kernel_rfl) rfl #[.agg #[.slice Ao63 t289.length co63, .string t292]] rfl am ?_; (with_reducible refine (msg_Message_Lines.calls (hG := by first | exact hG | exact Glob.below hG (by first | exact HB.out | (repeat (first | (with_reducible first | exact HB.out | apply below_alloc | apply pw_below_drewN | apply below_drew1 | refine below_set ?_ GE294.out | refine below_set ?_ GE299.out) | exact HB.out))) | exact Glob.drawn hG (by repeat (first | exact Drawn0.refl _ | apply Drawn0.step))) k _ _ t289 t292 t300 _ ?side1 ?side2 A3.out).mono ?_); (case side1 => refine (Kd.R_reads' (e := 46) (base := w.heap.size) (ok := fun k_ => True) (n := t289.length) (c := co63) ?_).2.2; exact (by (with_reducible repeat (first | apply Kd.R_alloc | apply Kd.R_drewN | apply Kd.R_drew)); exact (Kd.R_mono (Kd.R_far (p := ⟨gb299, 2, none⟩) (Kd.R_far (p := ⟨gb299, 1, none⟩) (Kd.R_far (p := ⟨gb299, 0, none⟩) (Kd.R_types HO291.out BK299.out (by decide)) (fun _ hk => hk.2) (.string t295)) (fun _ hk => hk.2) (.string t296)) (fun _ hk => hk.2) (.string t297)) (fun _ h_ => h_.1)))); (case side2 => exact (Kd.R_reads' HO291.out).2.1); rintro e w70 ⟨v301, rfl, ho0, hb⟩; refine ⟨_, rfl, ?_⟩; have n0_ := Aside0.mk (Kd.R_below (by (with_reducible repeat (first | apply Kd.R_alloc | apply Kd.R_drewN | apply Kd.R_drew)); exact (Kd.R_mono (Kd.R_far (p := ⟨gb299, 2, none⟩) (Kd.R_far (p := ⟨gb299, 1, none⟩) (Kd.R_far (p := ⟨gb299, 0, none⟩) (Kd.R_types HO291.out BK299.out (by decide)) (fun _ hk => hk.2) (.string t295)) (fun _ hk => hk.2) (.string t296)) (fun _ hk => hk.2) (.string t297)) (fun _ h_ => h_.1))) hb); have n1_ := Aside0.mk (Kd.R_lower ho0 (below_size bwS)); have n2_ := Aside0.mk (blk_below (g := gb294) (o := .cells #[.slice Ao63 t289.length co63, .string t292] 25 (0, 0)) (by (with_reducible repeat (first | refine blk_drewN ?_ _ | refine blk_drew ?_ | refine blk_alloc ?_ _)); refine blk_far ?_ NB294_299.out _; (with_reducible repeat (first | refine blk_drewN ?_ _ | refine blk_drew ?_ | refine blk_alloc ?_ _)); refine blk_far ?_ NB294_299.out _; (with_reducible repeat (first | refine blk_drewN ?_ _ | refine blk_drew ?_ | refine blk_alloc ?_ _)); refine blk_far ?_ NB294_299.out _; (with_reducible repeat (first | refine blk_drewN ?_ _ | refine blk_drew ?_ | refine blk_alloc ?_ _)); exact BK294.out) hb); have n3_ := Aside0.mk (blk_below (g := gb299) (o := .cells #[.string t295, .string t296, .string t297] 53 (0, 0)) (by (with_reducible repeat (first | refine blk_drewN ?_ _ | refine blk_drew ?_ | refine blk_alloc ?_ _)); refine blk_put (cs := #[.string t295, .string t296, .string (⟨#[]⟩ : ByteArray)]) ?_ 2 _ rfl; (with_reducible repeat (first | refine blk_drewN ?_ _ | refine blk_drew ?_ | refine blk_alloc ?_ _)); refine blk_put (cs := #[.string t295, .string (⟨#[]⟩ : ByteArray), .string (⟨#[]⟩ : ByteArray)]) ?_ 1 _ rfl; (with_reducible repeat (first | refine blk_drewN ?_ _ | refine blk_drew ?_ | refine blk_alloc ?_ _)); refine blk_put (cs := #[.string (⟨#[]⟩ : ByteArray), .string (⟨#[]⟩ : ByteArray), .string (⟨#[]⟩ : ByteArray)]) ?_ 0 _ rfl; (with_reducible repeat (first | refine blk_drewN ?_ _ | refine blk_drew ?_ | refine blk_alloc ?_ _)); exact BK299.out) hb); have n4_ := Aside0.mk (below_step bwS hb); clear HO291; clear BK294; clear BK299; clear HB; have HO291 := n0_; have HO302 := n1_; have BK294 := n2_; have BK299 := n3_; have HB := n4_; clear n0_ n1_ n2_ n3_ n4_; (try clear hb); (try clear hb2); (try clear hk); (try clear hi); (try clear ho0); have hcz71_0 : w70.cell? ⟨gb299, 0, none⟩ = some (.string t295) := (blk_cell BK299.out 0).trans rfl; have hcz71_1 : w70.cell? ⟨gb299, 1, none⟩ = some (.string t296) := (blk_cell BK299.out 1).trans rfl; have hcz71_2 : w70.cell? ⟨gb299, 2, none⟩ = some (.string t297) := (blk_cell BK299.out 2).trans rfl; have hfz71_0 := blk_frozen BK299.out 0; have hfz71_1 := blk_frozen BK299.out 1; have hfz71_2 := blk_frozen BK299.out 2))
    go_ret
    exact ⟨by first | rfl | (simp [errW_none, errW_some] <;> rfl) | (simp [*, errW_none, errW_some] <;> rfl), bwS⟩
  ·rw [if_neg c5] at H
   have c5b0 : (t298 == 0) = false := beq_eq_false_iff_ne.mpr c5
   have c5b1 : (t298 != 0) = true := bne_iff_ne.mpr c5
   obtain rfl := Option.some.inj H
   go_enter Tryz.func9, Tryz.ntmps9
   go_wp2_with (first | ((with_reducible refine gate_callee (f := 10) rfl ?_); refine goesL_ (some 7) rfl rfl Tryz.func10 (by kernel_rfl) rfl #[.string (⟨#[70, 114, 111, 109, 58, 32, 65, 110, 110, 32, 60, 97, 64, 98, 62, 13, 10, 13, 10, 104, 105, 13, 10]⟩ : ByteArray)] rfl am ?_; (with_reducible refine (msg_Parse.calls (hG := by first | exact hG | exact Glob.below hG (by first | exact HB.out | (repeat (first | (with_reducible first | exact HB.out | apply below_alloc | apply pw_below_drewN | apply below_drew1 | refine below_set ?_ GE294.out | refine below_set ?_ GE299.out) | exact HB.out))) | exact Glob.drawn hG (by repeat (first | exact Drawn0.refl _ | apply Drawn0.step))) k (⟨#[70, 114, 111, 109, 58, 32, 65, 110, 110, 32, 60, 97, 64, 98, 62, 13, 10, 13, 10, 104, 105, 13, 10]⟩ : ByteArray) t289 t292 t293 _ A1.out).mono ?_); rintro e w72 ⟨v290, rfl, ho0, hb⟩; refine ⟨_, rfl, ?_⟩; have n0_ := Aside0.mk (Kd.R_lower ho0 (below_size bw)); have n1_ := Aside0.mk (below_step bw hb); clear HB; have HO291 := n0_; have HB := n1_; clear n0_ n1_; (try clear hb); (try clear hb2); (try clear hk); (try clear hi); (try clear ho0)) | ((with_reducible refine gate_dst (N := 1) rfl ?_); (try (refine gate_guard (by rfl) ?_; dsimp only)); refine box_event ?hg (N := 1) ?hd (cs := #[.slice none 0 0, .string (⟨#[]⟩ : ByteArray)]) (t := 25) ?hr ?_; (case hd => rfl); (case hg => rfl); (case hr => first | (go_simp; done) | (go_simp; rfl)); intro gb294 hg w73 hbox hb; have n0_ := Aside0.mk (Kd.R_below (by (with_reducible repeat (first | apply Kd.R_alloc | apply Kd.R_drewN | apply Kd.R_drew)); exact HO291.out) hb); have n1_ := Aside0.mk (below_step bw hb); have n2_ := Aside0.mk (hbox); have n3_ := Aside0.mk ((by rw [hg]; exact (below_size bw) : w.heap.size ≤ gb294)); have n4_ := Aside0.mk ((by rw [hg]; exact (below_size bw) : w.heap.size ≤ gb294)); clear HO291; clear HB; have HO291 := n0_; have HB := n1_; have BK294 := n2_; have GW294 := n3_; have GE294 := n4_; clear n0_ n1_ n2_ n3_ n4_; clear hb hbox hg; obtain ⟨Ao74, co74, eo74⟩ := Kd.R_slice HO291.out; subst eo74; have hcz75_0 : w73.cell? ⟨gb294, 0, none⟩ = some (.slice none 0 0) := (blk_cell BK294.out 0).trans rfl; have hcz75_1 : w73.cell? ⟨gb294, 1, none⟩ = some (.string (⟨#[]⟩ : ByteArray)) := (blk_cell BK294.out 1).trans rfl; have hfz75_0 := blk_frozen BK294.out 0; have hfz75_1 := blk_frozen BK294.out 1) | ((with_reducible refine gate_callee (f := 22) rfl ?_); refine goesL_ (some 12) rfl rfl Tryz.func22 (by kernel_rfl) rfl #[.agg #[.slice Ao74 t289.length co74, .string t292]] rfl am ?_; (with_reducible refine (msg_Message_From.calls (hG := by first | exact hG | exact Glob.below hG (by first | exact HB.out | (repeat (first | (with_reducible first | exact HB.out | apply below_alloc | apply pw_below_drewN | apply below_drew1 | refine below_set ?_ GE294.out | refine below_set ?_ GE299.out) | exact HB.out))) | exact Glob.drawn hG (by repeat (first | exact Drawn0.refl _ | apply Drawn0.step))) k _ _ t289 t292 t295 t296 t297 t298 _ ?side1 ?side2 A2.out).mono ?_); (case side1 => refine (Kd.R_reads' (e := 46) (base := w.heap.size) (ok := fun k_ => True) (n := t289.length) (c := co74) ?_).2.2; exact (by (with_reducible repeat (first | apply Kd.R_alloc | apply Kd.R_drewN | apply Kd.R_drew)); exact (Kd.R_mono (Kd.R_far (p := ⟨gb294, 1, none⟩) (Kd.R_far (p := ⟨gb294, 0, none⟩) (Kd.R_types HO291.out BK294.out (by decide)) (fun _ hk => hk.2) (.slice Ao74 t289.length co74)) (fun _ hk => hk.2) (.string t292)) (fun _ h_ => h_.1)))); (case side2 => exact (Kd.R_reads' HO291.out).2.1); rintro e w76 ⟨rfl, hb⟩; refine ⟨_, rfl, ?_⟩; have n0_ := Aside0.mk (Kd.R_below (by (with_reducible repeat (first | apply Kd.R_alloc | apply Kd.R_drewN | apply Kd.R_drew)); exact (Kd.R_mono (Kd.R_far (p := ⟨gb294, 1, none⟩) (Kd.R_far (p := ⟨gb294, 0, none⟩) (Kd.R_types HO291.out BK294.out (by decide)) (fun _ hk => hk.2) (.slice Ao74 t289.length co74)) (fun _ hk => hk.2) (.string t292)) (fun _ h_ => h_.1))) hb); have n1_ := Aside0.mk (blk_below (g := gb294) (o := .cells #[.slice Ao74 t289.length co74, .string t292] 25 (0, 0)) (by (with_reducible repeat (first | refine blk_drewN ?_ _ | refine blk_drew ?_ | refine blk_alloc ?_ _)); refine blk_put (cs := #[.slice Ao74 t289.length co74, .string (⟨#[]⟩ : ByteArray)]) ?_ 1 _ rfl; (with_reducible repeat (first | refine blk_drewN ?_ _ | refine blk_drew ?_ | refine blk_alloc ?_ _)); refine blk_put (cs := #[.slice none 0 0, .string (⟨#[]⟩ : ByteArray)]) ?_ 0 _ rfl; (with_reducible repeat (first | refine blk_drewN ?_ _ | refine blk_drew ?_ | refine blk_alloc ?_ _)); exact BK294.out) hb); have n2_ := Aside0.mk (below_step bwS hb); clear HO291; clear BK294; clear HB; have HO291 := n0_; have BK294 := n1_; have HB := n2_; clear n0_ n1_ n2_; (try clear hb); (try clear hb2); (try clear hk); (try clear hi)) | ((with_reducible refine gate_dst (N := 3) rfl ?_); (try (refine gate_guard (by rfl) ?_; dsimp only)); refine box_event ?hg (N := 3) ?hd (cs := #[.string (⟨#[]⟩ : ByteArray), .string (⟨#[]⟩ : ByteArray), .string (⟨#[]⟩ : ByteArray)]) (t := 53) ?hr ?_; (case hd => rfl); (case hg => rfl); (case hr => first | (go_simp; done) | (go_simp; rfl)); intro gb299 hg w77 hbox hb; have n0_ := Aside0.mk (Kd.R_below (by (with_reducible repeat (first | apply Kd.R_alloc | apply Kd.R_drewN | apply Kd.R_drew)); exact HO291.out) hb); have n1_ := Aside0.mk (blk_below (g := gb294) (o := .cells #[.slice Ao74 t289.length co74, .string t292] 25 (0, 0)) bk hb); have n2_ := Aside0.mk (below_step bwS hb); have n3_ := Aside0.mk (hbox); have n4_ := Aside0.mk ((by rw [hg]; exact (below_size bwS) : w.heap.size ≤ gb299)); have n5_ := Aside0.mk ((by rw [hg]; exact (below_size bwS) : w.heap.size ≤ gb299)); have n6_ := Aside0.mk ((by rw [hg]; exact Nat.ne_of_lt (blk_lt (g := gb294) (o := .cells #[.slice Ao74 t289.length co74, .string t292] 25 (0, 0)) bk) : gb294 ≠ gb299)); have n7_ := Aside0.mk ((by rw [hg]; exact Nat.ne_of_gt (blk_lt (g := gb294) (o := .cells #[.slice Ao74 t289.length co74, .string t292] 25 (0, 0)) bk) : gb299 ≠ gb294)); clear HO291; clear BK294; clear HB; have HO291 := n0_; have BK294 := n1_; have HB := n2_; have BK299 := n3_; have GW299 := n4_; have GE299 := n5_; have NB294_299 := n6_; have NB299_294 := n7_; clear n0_ n1_ n2_ n3_ n4_ n5_ n6_ n7_; clear hb hbox hg; have hnb78 := NB299_294.out; have hnc78 := NB294_299.out; have hcz79_0 : w77.cell? ⟨gb299, 0, none⟩ = some (.string (⟨#[]⟩ : ByteArray)) := (blk_cell BK299.out 0).trans rfl; have hcz79_1 : w77.cell? ⟨gb299, 1, none⟩ = some (.string (⟨#[]⟩ : ByteArray)) := (blk_cell BK299.out 1).trans rfl; have hcz79_2 : w77.cell? ⟨gb299, 2, none⟩ = some (.string (⟨#[]⟩ : ByteArray)) := (blk_cell BK299.out 2).trans rfl; have hfz79_0 := blk_frozen BK299.out 0; have hfz79_1 := blk_frozen BK299.out 1; have hfz79_2 := blk_frozen BK299.out 2; have hcz80_0 : w77.cell? ⟨gb294, 0, none⟩ = some (.slice Ao74 t289.length co74) := (blk_cell BK294.out 0).trans rfl; have hcz80_1 : w77.cell? ⟨gb294, 1, none⟩ = some (.string t292) := (blk_cell BK294.out 1).trans rfl; have hfz80_0 := blk_frozen BK294.out 0; have hfz80_1 := blk_frozen BK294.out 1) | ((with_reducible refine gate_callee (f := 16) rfl ?_); refine goesL_ (some 16) rfl rfl Tryz.func16 (by kernel_rfl) rfl #[.agg #[.slice Ao74 t289.length co74, .string t292]] rfl am ?_; (with_reducible refine (msg_Message_Lines.calls (hG := by first | exact hG | exact Glob.below hG (by first | exact HB.out | (repeat (first | (with_reducible first | exact HB.out | apply below_alloc | apply pw_below_drewN | apply below_drew1 | refine below_set ?_ GE294.out | refine below_set ?_ GE299.out) | exact HB.out))) | exact Glob.drawn hG (by repeat (first | exact Drawn0.refl _ | apply Drawn0.step))) k _ _ t289 t292 t300 _ ?side1 ?side2 A3.out).mono ?_); (case side1 => refine (Kd.R_reads' (e := 46) (base := w.heap.size) (ok := fun k_ => True) (n := t289.length) (c := co74) ?_).2.2; exact (by (with_reducible repeat (first | apply Kd.R_alloc | apply Kd.R_drewN | apply Kd.R_drew)); exact (Kd.R_mono (Kd.R_far (p := ⟨gb299, 2, none⟩) (Kd.R_far (p := ⟨gb299, 1, none⟩) (Kd.R_far (p := ⟨gb299, 0, none⟩) (Kd.R_types HO291.out BK299.out (by decide)) (fun _ hk => hk.2) (.string t295)) (fun _ hk => hk.2) (.string t296)) (fun _ hk => hk.2) (.string t297)) (fun _ h_ => h_.1)))); (case side2 => exact (Kd.R_reads' HO291.out).2.1); rintro e w81 ⟨v301, rfl, ho0, hb⟩; refine ⟨_, rfl, ?_⟩; have n0_ := Aside0.mk (Kd.R_below (by (with_reducible repeat (first | apply Kd.R_alloc | apply Kd.R_drewN | apply Kd.R_drew)); exact (Kd.R_mono (Kd.R_far (p := ⟨gb299, 2, none⟩) (Kd.R_far (p := ⟨gb299, 1, none⟩) (Kd.R_far (p := ⟨gb299, 0, none⟩) (Kd.R_types HO291.out BK299.out (by decide)) (fun _ hk => hk.2) (.string t295)) (fun _ hk => hk.2) (.string t296)) (fun _ hk => hk.2) (.string t297)) (fun _ h_ => h_.1))) hb); have n1_ := Aside0.mk (Kd.R_lower ho0 (below_size bwS)); have n2_ := Aside0.mk (blk_below (g := gb294) (o := .cells #[.slice Ao74 t289.length co74, .string t292] 25 (0, 0)) (by (with_reducible repeat (first | refine blk_drewN ?_ _ | refine blk_drew ?_ | refine blk_alloc ?_ _)); refine blk_far ?_ NB294_299.out _; (with_reducible repeat (first | refine blk_drewN ?_ _ | refine blk_drew ?_ | refine blk_alloc ?_ _)); refine blk_far ?_ NB294_299.out _; (with_reducible repeat (first | refine blk_drewN ?_ _ | refine blk_drew ?_ | refine blk_alloc ?_ _)); refine blk_far ?_ NB294_299.out _; (with_reducible repeat (first | refine blk_drewN ?_ _ | refine blk_drew ?_ | refine blk_alloc ?_ _)); exact BK294.out) hb); have n3_ := Aside0.mk (blk_below (g := gb299) (o := .cells #[.string t295, .string t296, .string t297] 53 (0, 0)) (by (with_reducible repeat (first | refine blk_drewN ?_ _ | refine blk_drew ?_ | refine blk_alloc ?_ _)); refine blk_put (cs := #[.string t295, .string t296, .string (⟨#[]⟩ : ByteArray)]) ?_ 2 _ rfl; (with_reducible repeat (first | refine blk_drewN ?_ _ | refine blk_drew ?_ | refine blk_alloc ?_ _)); refine blk_put (cs := #[.string t295, .string (⟨#[]⟩ : ByteArray), .string (⟨#[]⟩ : ByteArray)]) ?_ 1 _ rfl; (with_reducible repeat (first | refine blk_drewN ?_ _ | refine blk_drew ?_ | refine blk_alloc ?_ _)); refine blk_put (cs := #[.string (⟨#[]⟩ : ByteArray), .string (⟨#[]⟩ : ByteArray), .string (⟨#[]⟩ : ByteArray)]) ?_ 0 _ rfl; (with_reducible repeat (first | refine blk_drewN ?_ _ | refine blk_drew ?_ | refine blk_alloc ?_ _)); exact BK299.out) hb); have n4_ := Aside0.mk (below_step bwS hb); clear HO291; clear BK294; clear BK299; clear HB; have HO291 := n0_; have HO302 := n1_; have BK294 := n2_; have BK299 := n3_; have HB := n4_; clear n0_ n1_ n2_ n3_ n4_; (try clear hb); (try clear hb2); (try clear hk); (try clear hi); (try clear ho0)))
   go_ret
   exact ⟨by first | rfl | (simp [errW_none, errW_some] <;> rfl) | (simp [*, errW_none, errW_some] <;> rfl), bwS⟩
 ·rw [if_neg c4] at H
  have c4b0 : (t293 == 0) = false := beq_eq_false_iff_ne.mpr c4
  have c4b1 : (t293 != 0) = true := bne_iff_ne.mpr c4
  obtain rfl := Option.some.inj H
  go_enter Tryz.func9, Tryz.ntmps9
  go_wp2_with (first | ((with_reducible refine gate_callee (f := 10) rfl ?_); refine goesL_ (some 7) rfl rfl Tryz.func10 (by kernel_rfl) rfl #[.string (⟨#[70, 114, 111, 109, 58, 32, 65, 110, 110, 32, 60, 97, 64, 98, 62, 13, 10, 13, 10, 104, 105, 13, 10]⟩ : ByteArray)] rfl am ?_; (with_reducible refine (msg_Parse.calls (hG := by first | exact hG | exact Glob.below hG (by first | exact HB.out | (repeat (first | (with_reducible first | exact HB.out | apply below_alloc | apply pw_below_drewN | apply below_drew1 | refine below_set ?_ GE294.out | refine below_set ?_ GE299.out) | exact HB.out))) | exact Glob.drawn hG (by repeat (first | exact Drawn0.refl _ | apply Drawn0.step))) k (⟨#[70, 114, 111, 109, 58, 32, 65, 110, 110, 32, 60, 97, 64, 98, 62, 13, 10, 13, 10, 104, 105, 13, 10]⟩ : ByteArray) t289 t292 t293 _ A1.out).mono ?_); rintro e w82 ⟨v290, rfl, ho0, hb⟩; refine ⟨_, rfl, ?_⟩; have n0_ := Aside0.mk (Kd.R_lower ho0 (below_size bw)); have n1_ := Aside0.mk (below_step bw hb); clear HB; have HO291 := n0_; have HB := n1_; clear n0_ n1_; (try clear hb); (try clear hb2); (try clear hk); (try clear hi); (try clear ho0)) | ((with_reducible refine gate_dst (N := 1) rfl ?_); (try (refine gate_guard (by rfl) ?_; dsimp only)); refine box_event ?hg (N := 1) ?hd (cs := #[.slice none 0 0, .string (⟨#[]⟩ : ByteArray)]) (t := 25) ?hr ?_; (case hd => rfl); (case hg => rfl); (case hr => first | (go_simp; done) | (go_simp; rfl)); intro gb294 hg w83 hbox hb; have n0_ := Aside0.mk (Kd.R_below (by (with_reducible repeat (first | apply Kd.R_alloc | apply Kd.R_drewN | apply Kd.R_drew)); exact HO291.out) hb); have n1_ := Aside0.mk (below_step bw hb); have n2_ := Aside0.mk (hbox); have n3_ := Aside0.mk ((by rw [hg]; exact (below_size bw) : w.heap.size ≤ gb294)); have n4_ := Aside0.mk ((by rw [hg]; exact (below_size bw) : w.heap.size ≤ gb294)); clear HO291; clear HB; have HO291 := n0_; have HB := n1_; have BK294 := n2_; have GW294 := n3_; have GE294 := n4_; clear n0_ n1_ n2_ n3_ n4_; clear hb hbox hg; obtain ⟨Ao84, co84, eo84⟩ := Kd.R_slice HO291.out; subst eo84; have hcz85_0 : w83.cell? ⟨gb294, 0, none⟩ = some (.slice none 0 0) := (blk_cell BK294.out 0).trans rfl; have hcz85_1 : w83.cell? ⟨gb294, 1, none⟩ = some (.string (⟨#[]⟩ : ByteArray)) := (blk_cell BK294.out 1).trans rfl; have hfz85_0 := blk_frozen BK294.out 0; have hfz85_1 := blk_frozen BK294.out 1) | ((with_reducible refine gate_callee (f := 22) rfl ?_); refine goesL_ (some 12) rfl rfl Tryz.func22 (by kernel_rfl) rfl #[.agg #[.slice Ao84 t289.length co84, .string t292]] rfl am ?_; (with_reducible refine (msg_Message_From.calls (hG := by first | exact hG | exact Glob.below hG (by first | exact HB.out | (repeat (first | (with_reducible first | exact HB.out | apply below_alloc | apply pw_below_drewN | apply below_drew1 | refine below_set ?_ GE294.out | refine below_set ?_ GE299.out) | exact HB.out))) | exact Glob.drawn hG (by repeat (first | exact Drawn0.refl _ | apply Drawn0.step))) k _ _ t289 t292 t295 t296 t297 t298 _ ?side1 ?side2 A2.out).mono ?_); (case side1 => refine (Kd.R_reads' (e := 46) (base := w.heap.size) (ok := fun k_ => True) (n := t289.length) (c := co84) ?_).2.2; exact (by (with_reducible repeat (first | apply Kd.R_alloc | apply Kd.R_drewN | apply Kd.R_drew)); exact (Kd.R_mono (Kd.R_far (p := ⟨gb294, 1, none⟩) (Kd.R_far (p := ⟨gb294, 0, none⟩) (Kd.R_types HO291.out BK294.out (by decide)) (fun _ hk => hk.2) (.slice Ao84 t289.length co84)) (fun _ hk => hk.2) (.string t292)) (fun _ h_ => h_.1)))); (case side2 => exact (Kd.R_reads' HO291.out).2.1); rintro e w86 ⟨rfl, hb⟩; refine ⟨_, rfl, ?_⟩; have n0_ := Aside0.mk (Kd.R_below (by (with_reducible repeat (first | apply Kd.R_alloc | apply Kd.R_drewN | apply Kd.R_drew)); exact (Kd.R_mono (Kd.R_far (p := ⟨gb294, 1, none⟩) (Kd.R_far (p := ⟨gb294, 0, none⟩) (Kd.R_types HO291.out BK294.out (by decide)) (fun _ hk => hk.2) (.slice Ao84 t289.length co84)) (fun _ hk => hk.2) (.string t292)) (fun _ h_ => h_.1))) hb); have n1_ := Aside0.mk (blk_below (g := gb294) (o := .cells #[.slice Ao84 t289.length co84, .string t292] 25 (0, 0)) (by (with_reducible repeat (first | refine blk_drewN ?_ _ | refine blk_drew ?_ | refine blk_alloc ?_ _)); refine blk_put (cs := #[.slice Ao84 t289.length co84, .string (⟨#[]⟩ : ByteArray)]) ?_ 1 _ rfl; (with_reducible repeat (first | refine blk_drewN ?_ _ | refine blk_drew ?_ | refine blk_alloc ?_ _)); refine blk_put (cs := #[.slice none 0 0, .string (⟨#[]⟩ : ByteArray)]) ?_ 0 _ rfl; (with_reducible repeat (first | refine blk_drewN ?_ _ | refine blk_drew ?_ | refine blk_alloc ?_ _)); exact BK294.out) hb); have n2_ := Aside0.mk (below_step bwS hb); clear HO291; clear BK294; clear HB; have HO291 := n0_; have BK294 := n1_; have HB := n2_; clear n0_ n1_ n2_; (try clear hb); (try clear hb2); (try clear hk); (try clear hi)) | ((with_reducible refine gate_dst (N := 3) rfl ?_); (try (refine gate_guard (by rfl) ?_; dsimp only)); refine box_event ?hg (N := 3) ?hd (cs := #[.string (⟨#[]⟩ : ByteArray), .string (⟨#[]⟩ : ByteArray), .string (⟨#[]⟩ : ByteArray)]) (t := 53) ?hr ?_; (case hd => rfl); (case hg => rfl); (case hr => first | (go_simp; done) | (go_simp; rfl)); intro gb299 hg w87 hbox hb; have n0_ := Aside0.mk (Kd.R_below (by (with_reducible repeat (first | apply Kd.R_alloc | apply Kd.R_drewN | apply Kd.R_drew)); exact HO291.out) hb); have n1_ := Aside0.mk (blk_below (g := gb294) (o := .cells #[.slice Ao84 t289.length co84, .string t292] 25 (0, 0)) bk hb); have n2_ := Aside0.mk (below_step bwS hb); have n3_ := Aside0.mk (hbox); have n4_ := Aside0.mk ((by rw [hg]; exact (below_size bwS) : w.heap.size ≤ gb299)); have n5_ := Aside0.mk ((by rw [hg]; exact (below_size bwS) : w.heap.size ≤ gb299)); have n6_ := Aside0.mk ((by rw [hg]; exact Nat.ne_of_lt (blk_lt (g := gb294) (o := .cells #[.slice Ao84 t289.length co84, .string t292] 25 (0, 0)) bk) : gb294 ≠ gb299)); have n7_ := Aside0.mk ((by rw [hg]; exact Nat.ne_of_gt (blk_lt (g := gb294) (o := .cells #[.slice Ao84 t289.length co84, .string t292] 25 (0, 0)) bk) : gb299 ≠ gb294)); clear HO291; clear BK294; clear HB; have HO291 := n0_; have BK294 := n1_; have HB := n2_; have BK299 := n3_; have GW299 := n4_; have GE299 := n5_; have NB294_299 := n6_; have NB299_294 := n7_; clear n0_ n1_ n2_ n3_ n4_ n5_ n6_ n7_; clear hb hbox hg; have hnb88 := NB299_294.out; have hnc88 := NB294_299.out; have hcz89_0 : w87.cell? ⟨gb299, 0, none⟩ = some (.string (⟨#[]⟩ : ByteArray)) := (blk_cell BK299.out 0).trans rfl; have hcz89_1 : w87.cell? ⟨gb299, 1, none⟩ = some (.string (⟨#[]⟩ : ByteArray)) := (blk_cell BK299.out 1).trans rfl; have hcz89_2 : w87.cell? ⟨gb299, 2, none⟩ = some (.string (⟨#[]⟩ : ByteArray)) := (blk_cell BK299.out 2).trans rfl; have hfz89_0 := blk_frozen BK299.out 0; have hfz89_1 := blk_frozen BK299.out 1; have hfz89_2 := blk_frozen BK299.out 2; have hcz90_0 : w87.cell? ⟨gb294, 0, none⟩ = some (.slice Ao84 t289.length co84) := (blk_cell BK294.out 0).trans rfl; have hcz90_1 : w87.cell? ⟨gb294, 1, none⟩ = some (.string t292) := (blk_cell BK294.out 1).trans rfl; have hfz90_0 := blk_frozen BK294.out 0; have hfz90_1 := blk_frozen BK294.out 1) | ((with_reducible refine gate_callee (f := 16) rfl ?_); refine goesL_ (some 16) rfl rfl Tryz.func16 (by kernel_rfl) rfl #[.agg #[.slice Ao84 t289.length co84, .string t292]] rfl am ?_; (with_reducible refine (msg_Message_Lines.calls (hG := by first | exact hG | exact Glob.below hG (by first | exact HB.out | (repeat (first | (with_reducible first | exact HB.out | apply below_alloc | apply pw_below_drewN | apply below_drew1 | refine below_set ?_ GE294.out | refine below_set ?_ GE299.out) | exact HB.out))) | exact Glob.drawn hG (by repeat (first | exact Drawn0.refl _ | apply Drawn0.step))) k _ _ t289 t292 t300 _ ?side1 ?side2 A3.out).mono ?_); (case side1 => refine (Kd.R_reads' (e := 46) (base := w.heap.size) (ok := fun k_ => True) (n := t289.length) (c := co84) ?_).2.2; exact (by (with_reducible repeat (first | apply Kd.R_alloc | apply Kd.R_drewN | apply Kd.R_drew)); exact (Kd.R_mono (Kd.R_far (p := ⟨gb299, 2, none⟩) (Kd.R_far (p := ⟨gb299, 1, none⟩) (Kd.R_far (p := ⟨gb299, 0, none⟩) (Kd.R_types HO291.out BK299.out (by decide)) (fun _ hk => hk.2) (.string t295)) (fun _ hk => hk.2) (.string t296)) (fun _ hk => hk.2) (.string t297)) (fun _ h_ => h_.1)))); (case side2 => exact (Kd.R_reads' HO291.out).2.1); rintro e w91 ⟨v301, rfl, ho0, hb⟩; refine ⟨_, rfl, ?_⟩; have n0_ := Aside0.mk (Kd.R_below (by (with_reducible repeat (first | apply Kd.R_alloc | apply Kd.R_drewN | apply Kd.R_drew)); exact (Kd.R_mono (Kd.R_far (p := ⟨gb299, 2, none⟩) (Kd.R_far (p := ⟨gb299, 1, none⟩) (Kd.R_far (p := ⟨gb299, 0, none⟩) (Kd.R_types HO291.out BK299.out (by decide)) (fun _ hk => hk.2) (.string t295)) (fun _ hk => hk.2) (.string t296)) (fun _ hk => hk.2) (.string t297)) (fun _ h_ => h_.1))) hb); have n1_ := Aside0.mk (Kd.R_lower ho0 (below_size bwS)); have n2_ := Aside0.mk (blk_below (g := gb294) (o := .cells #[.slice Ao84 t289.length co84, .string t292] 25 (0, 0)) (by (with_reducible repeat (first | refine blk_drewN ?_ _ | refine blk_drew ?_ | refine blk_alloc ?_ _)); refine blk_far ?_ NB294_299.out _; (with_reducible repeat (first | refine blk_drewN ?_ _ | refine blk_drew ?_ | refine blk_alloc ?_ _)); refine blk_far ?_ NB294_299.out _; (with_reducible repeat (first | refine blk_drewN ?_ _ | refine blk_drew ?_ | refine blk_alloc ?_ _)); refine blk_far ?_ NB294_299.out _; (with_reducible repeat (first | refine blk_drewN ?_ _ | refine blk_drew ?_ | refine blk_alloc ?_ _)); exact BK294.out) hb); have n3_ := Aside0.mk (blk_below (g := gb299) (o := .cells #[.string t295, .string t296, .string t297] 53 (0, 0)) (by (with_reducible repeat (first | refine blk_drewN ?_ _ | refine blk_drew ?_ | refine blk_alloc ?_ _)); refine blk_put (cs := #[.string t295, .string t296, .string (⟨#[]⟩ : ByteArray)]) ?_ 2 _ rfl; (with_reducible repeat (first | refine blk_drewN ?_ _ | refine blk_drew ?_ | refine blk_alloc ?_ _)); refine blk_put (cs := #[.string t295, .string (⟨#[]⟩ : ByteArray), .string (⟨#[]⟩ : ByteArray)]) ?_ 1 _ rfl; (with_reducible repeat (first | refine blk_drewN ?_ _ | refine blk_drew ?_ | refine blk_alloc ?_ _)); refine blk_put (cs := #[.string (⟨#[]⟩ : ByteArray), .string (⟨#[]⟩ : ByteArray), .string (⟨#[]⟩ : ByteArray)]) ?_ 0 _ rfl; (with_reducible repeat (first | refine blk_drewN ?_ _ | refine blk_drew ?_ | refine blk_alloc ?_ _)); exact BK299.out) hb); have n4_ := Aside0.mk (below_step bwS hb); clear HO291; clear BK294; clear BK299; clear HB; have HO291 := n0_; have HO302 := n1_; have BK294 := n2_; have BK299 := n3_; have HB := n4_; clear n0_ n1_ n2_ n3_ n4_; (try clear hb); (try clear hb2); (try clear hk); (try clear hi); (try clear ho0)))
  go_ret
  exact ⟨by first | rfl | (simp [errW_none, errW_some] <;> rfl) | (simp [*, errW_none, errW_some] <;> rfl), bwS⟩

end Go.Proofs.YtbjbpgmjijeppaaGreatDoor.Fn
namespace Go.Proofs.YtbjbpgmjijeppaaGreatDoor.Fn
open Go.RowKit Go.Proofs.YtbjbpgmjijeppaaGreatDoorW.PrintWords Go.Proofs.YtbjbpgmjijeppaaGreatDoorW.PrintLast Go.Proofs.YtbjbpgmjijeppaaGreatDoorW.PrintMore
attribute [local go_sem] max2_int min2_int max_two min_two max_three min_three max_four min_four
set_option linter.unusedVariables false
set_option linter.unusedSimpArgs false

/-! ### bulletinref16_Lines: function 17 -/
def bulletinref16_Lines.l0 : Nat → List ByteArray → ByteArray → ByteArray → Int → Option (List ByteArray)
 | 0, _, _, _, _ => none
 | k + 1, x3, x4, x5, x6 => if x6 < (x5.size : Int) then (if 0 ≤ x6 then (if (bt x5 x6) = 13 then (if (wrap64 (x6 + 1)) < (x5.size : Int) then (if 0 ≤ (wrap64 (x6 + 1)) then (if (bt x5 (wrap64 (x6 + 1))) = 10 then (if x3.length < 8796093022208 then (bulletinref16_Lines.l0 k (x3 ++ [x4]) (⟨#[]⟩ : ByteArray) x5 (wrap64 ((wrap64 (x6 + 1)) + 1))) else (none)) else (if x6 ≤ (wrap64 (x6 + 1)) then (if (wrap64 (x6 + 1)) ≤ (x5.size : Int) then (if x4.size + (x5.extract (x6 : Int).toNat ((wrap64 (x6 + 1)) : Int).toNat).size ≤ 9223372036854775807 then (bulletinref16_Lines.l0 k x3 (x4 ++ (x5.extract (x6 : Int).toNat ((wrap64 (x6 + 1)) : Int).toNat)) x5 (wrap64 (x6 + 1))) else (none)) else (none)) else (none))) else (none)) else (if x6 ≤ (wrap64 (x6 + 1)) then (if (wrap64 (x6 + 1)) ≤ (x5.size : Int) then (if x4.size + (x5.extract (x6 : Int).toNat ((wrap64 (x6 + 1)) : Int).toNat).size ≤ 9223372036854775807 then (bulletinref16_Lines.l0 k x3 (x4 ++ (x5.extract (x6 : Int).toNat ((wrap64 (x6 + 1)) : Int).toNat)) x5 (wrap64 (x6 + 1))) else (none)) else (none)) else (none))) else (if x6 ≤ (wrap64 (x6 + 1)) then (if (wrap64 (x6 + 1)) ≤ (x5.size : Int) then (if x4.size + (x5.extract (x6 : Int).toNat ((wrap64 (x6 + 1)) : Int).toNat).size ≤ 9223372036854775807 then (bulletinref16_Lines.l0 k x3 (x4 ++ (x5.extract (x6 : Int).toNat ((wrap64 (x6 + 1)) : Int).toNat)) x5 (wrap64 (x6 + 1))) else (none)) else (none)) else (none))) else (none)) else (if x4.toList = ([] : List UInt8) then (some x3) else (if x3.length < 8796093022208 then (some (x3 ++ [x4])) else (none)))
def bulletinref16_Lines.f (k : Nat) (l0_0 : List (S67)) (a0_1 : ByteArray) : Option (List ByteArray) := bulletinref16_Lines.l0 k ([] : List ByteArray) (⟨#[]⟩ : ByteArray) a0_1 0
set_option maxHeartbeats 8000000 in
set_option maxRecDepth 100000 in
theorem bulletinref16_Lines.calls (k : Nat) (A0_0 : Option Addr) (c0_0 : Nat) (l0_0 : List (S67)) (a0_1 : ByteArray) (r : List ByteArray) (w : World) (hr0_0 : Kd.C k67 w A0_0 l0_0.length l0_0) (hc0_0 : l0_0.length ≤ c0_0) (h : bulletinref16_Lines.f k l0_0 a0_1 = some r) :
  Calls Tryz.prog 17 #[.agg #[.slice A0_0 l0_0.length c0_0, .string a0_1]] w fun e w' => ∃ v0_ : Value, e = .returned (v0_) ∧ Kd.R Kd.string 9 w' w.heap.size (fun _ => True) v0_ r ∧ Below w.heap.size w w' := by
 have hu31 := Tryz.underlying31
 have HR0_0 := Aside0.mk hr0_0
 have HC0_0 := Aside0.mk hc0_0
 clear hr0_0 hc0_0
 have HB := Aside0.mk (Below.refl w.heap.size w)
 have H : (bulletinref16_Lines.l0 k ([] : List ByteArray) (⟨#[]⟩ : ByteArray) a0_1 0) = some r := h
 clear h
 have H' := Aside0.mk H
 clear H
 go_enter Tryz.func17, Tryz.ntmps17
 go_wp2_with (first | ((with_reducible refine gate_dst (N := 1) rfl ?_); (try (refine gate_guard (by rfl) ?_; dsimp only)); refine box_event ?hg (N := 1) ?hd (cs := #[.slice A0_0 l0_0.length c0_0, .string a0_1]) (t := 31) ?hr ?_; (case hd => rfl); (case hg => rfl); (case hr => first | (go_simp; done) | (go_simp; rfl)); intro gb372 hg w2 hbox hb; have n0_ := Aside0.mk (below_step bw hb); have n1_ := Aside0.mk (hbox); have n2_ := Aside0.mk ((by rw [hg]; exact (below_size bw) : w.heap.size ≤ gb372)); have n3_ := Aside0.mk ((by rw [hg]; exact (below_size bw) : w.heap.size ≤ gb372)); clear HB; have HB := n0_; have BK372 := n1_; have GW372 := n2_; have GE372 := n3_; clear n0_ n1_ n2_ n3_; clear hb hbox hg; have hcz3_0 : w2.cell? ⟨gb372, 0, none⟩ = some (.slice A0_0 l0_0.length c0_0) := (blk_cell BK372.out 0).trans rfl; have hcz3_1 : w2.cell? ⟨gb372, 1, none⟩ = some (.string a0_1) := (blk_cell BK372.out 1).trans rfl; have hfz3_0 := blk_frozen BK372.out 0; have hfz3_1 := blk_frozen BK372.out 1))
 go_loopg [3, 4, 6] k (fun kq v3 v4 v6 w' => ∃ (x3_1 : List ByteArray) (x4_1 : ByteArray) (x6_1 : Int), v4 = .string x4_1 ∧ v6 = .int .i64 x6_1 ∧ Aside0 (bulletinref16_Lines.l0 kq x3_1 x4_1 a0_1 x6_1 = some r) ∧ Aside0 (kq ≤ k) ∧ Aside0 (Kd.R Kd.string 9 w' w.heap.size (fun _ => True) v3 x3_1) ∧ Aside0 (w'.heap[gb372]? = some (.cells #[(.slice A0_0 l0_0.length c0_0), .string a0_1] 31 (0, 0))) ∧ Aside0 (Below w.heap.size w w'))
 case atStart => exact ⟨(([] : List ByteArray)), ((⟨#[]⟩ : ByteArray)), (0), cl, cl, H', ⟨Nat.le_refl _⟩, ⟨by first | exact Kd.R_nil _ _ _ _ _ | exact Kd.N_nil _ _ _ _ _ | exact Kd.V_nil _ _ _ _ _ | exact Kd.Q_nil _ _ _ _ _ | exact Kd.S_nil _ _ _ _ _⟩, ⟨bk⟩, ⟨bwS⟩⟩
 case round =>
  clear H'
  try clear c1
  try clear p2
  try clear hcz3_0
  try clear hcz3_1
  try clear hfz3_0
  try clear hfz3_1
  obtain ⟨x3_1, x4_1, x6_1, rfl, rfl, HA, HK1, HO_3, BK372, HB⟩ := hrel
  cases gk with
  | zero => exact absurd HA.out (by simp [bulletinref16_Lines.l0])
  | succ k1 =>
   have H := HA.out
   clear HA
   simp only [bulletinref16_Lines.l0] at H
   by_cases c4 : x6_1 < (a0_1.size : Int)
   ·rw [if_pos c4] at H
    have c4b0 : decide (x6_1 < (a0_1.size : Int)) = true := decide_eq_true c4
    clear c4
    by_cases c5 : 0 ≤ x6_1
    ·rw [if_pos c5] at H
     have c5b0 : decide (0 ≤ x6_1) = true := decide_eq_true c5
     clear c5
     by_cases c7 : (bt a0_1 x6_1) = 13
     ·rw [if_pos c7] at H
      have c7b0 : ((bt a0_1 x6_1) == 13) = true := beq_iff_eq.mpr c7
      have c7b1 : ((bt a0_1 x6_1) != 13) = false := bne_eq_false_iff_eq.mpr c7
      clear c7
      by_cases c8 : (wrap64 (x6_1 + 1)) < (a0_1.size : Int)
      ·rw [if_pos c8] at H
       have c8b0 : decide ((wrap64 (x6_1 + 1)) < (a0_1.size : Int)) = true := decide_eq_true c8
       clear c8
       obtain ⟨ji9, hji9⟩ : ∃ j_ : Int, (wrap64 (x6_1 + 1)) = j_ := ⟨_, rfl⟩
       replace H : (if 0 ≤ (ji9) then (if (bt a0_1 (ji9)) = 10 then (if x3_1.length < 8796093022208 then (bulletinref16_Lines.l0 k1 (x3_1 ++ [x4_1]) (⟨#[]⟩ : ByteArray) a0_1 (wrap64 ((ji9) + 1))) else (none)) else (if x6_1 ≤ (ji9) then (if (ji9) ≤ (a0_1.size : Int) then (if x4_1.size + (a0_1.extract (x6_1 : Int).toNat ((ji9) : Int).toNat).size ≤ 9223372036854775807 then (bulletinref16_Lines.l0 k1 x3_1 (x4_1 ++ (a0_1.extract (x6_1 : Int).toNat ((ji9) : Int).toNat)) a0_1 ji9) else (none)) else (none)) else (none))) else (none)) = some r := by first | (rw [hji9] at H; exact H) | (simp only [hji9] at H ⊢; exact H)
       (try rw [hji9] at c8b0)
       have hji9w : (IntKind.i64.wrap (x6_1 + 1)) = ji9 := (i64_w _).trans hji9
       by_cases c10 : 0 ≤ (ji9)
       ·rw [if_pos c10] at H
        have c10b0 : decide (0 ≤ (ji9)) = true := decide_eq_true c10
        clear c10
        by_cases c12 : (bt a0_1 (ji9)) = 10
        ·rw [if_pos c12] at H
         have c12b0 : ((bt a0_1 (ji9)) == 10) = true := beq_iff_eq.mpr c12
         have c12b1 : ((bt a0_1 (ji9)) != 10) = false := bne_eq_false_iff_eq.mpr c12
         clear c12
         by_cases c13 : x3_1.length < 8796093022208
         ·rw [if_pos c13] at H
          have LMc13 := Aside0.mk c13
          clear c13
          obtain ⟨y373, hy373⟩ : ∃ y_ : List ByteArray, y_ = (x3_1 ++ [x4_1]) := ⟨_, rfl⟩
          replace H : (bulletinref16_Lines.l0 k1 y373 (⟨#[]⟩ : ByteArray) a0_1 (wrap64 ((ji9) + 1))) = some r := by first | (rw [hy373]; with_reducible exact H) | (have H2_ := (Option.bind_some _ _).symm.trans H; rw [hy373]; with_reducible exact H2_) | (have H2_ := (Option.bind_some _ _).symm.trans H; with_reducible exact H2_) | with_reducible exact H | (rw [hy373]; exact H) | exact H
          have Ny373 := Aside0.mk hy373
          clear hy373
          have H' := Aside0.mk H
          clear H
          have p6 : 0 ≤ (x6_1 : Int) := od
          have q6 : x6_1 < (a0_1.size : Int) := od
          have hx6 := bt_at a0_1 x6_1
          replace p6 := eq_true p6
          replace q6 := eq_true q6
          have p11 : 0 ≤ ((ji9) : Int) := od
          have q11 : (ji9) < (a0_1.size : Int) := od
          have hx11 := bt_at a0_1 (ji9)
          replace p11 := eq_true p11
          replace q11 := eq_true q11
          go_wp2_with (first | ((with_reducible refine gate_builtin (b := .append) (xs := #[.tmp 33, .tmp 35]) rfl ?_); (try (refine gate_guard (by rfl) ?_; dsimp only)); at_builtin; refine Kd.R_append Kd.string (w0 := w) w.heap.size rfl (.tmp 33) (.tmp 35) 39 9 (.string ⟨#[]⟩) 16 rfl Tryz.underlying39 info9 rfl (by decide) (by omega) u3 x3_1 x4_1 [.string x4_1] (fun _ => True) (fun _ => False) rfl rfl ?aP (fun _ hk => hk.elim) ?aF ?aO ?aB ?aS ?aL ?_; (case aP => exact rfl); (case aB => exact bwS); (case aF => exact (fun _ _ => trivial)); (case aO => exact (by (with_reducible repeat (first | apply Kd.R_alloc | apply Kd.R_drewN | apply Kd.R_drew)); exact HO_3.out)); (case aS => exact (below_size bwS)); (case aL => have := LMc13.out; omega); intro v374 w14 ho hb hg hat; rw [← Ny373.out] at ho; have n0_ := Aside0.mk (blk_grown (g := gb372) (o := .cells #[.slice A0_0 l0_0.length c0_0, .string a0_1] 31 (0, 0)) bk hg (Kd.R_ne HO_3.out BK372.out (by decide))); have n1_ := Aside0.mk (hb); have n2_ := Aside0.mk (ho); clear BK372; clear HB; clear HO_3; have BK372 := n0_; have HB := n1_; have HO375 := n2_; clear n0_ n1_ n2_; clear ho hb hg hat))
          go_roundg k1
          case measure => have := HK1.out; omega
          case rel => exact ⟨(y373), ((⟨#[]⟩ : ByteArray)), (wrap64 ((ji9) + 1)), cl, (by first | rfl | (simp; done) | (simp only [← hji9] <;> (first | rfl | simp)) | (simp [*]; done) | (simp [nil_ne]; done)), H', ⟨by have := HK1.out; omega⟩, ⟨by (with_reducible repeat (first | apply Kd.R_alloc | apply Kd.R_drewN | apply Kd.R_drew)); exact HO375.out⟩, ⟨bk⟩, ⟨bwS⟩⟩
         ·rw [if_neg c13] at H
          exact absurd H (by simp)
        ·rw [if_neg c12] at H
         have c12b0 : ((bt a0_1 (ji9)) == 10) = false := beq_eq_false_iff_ne.mpr c12
         have c12b1 : ((bt a0_1 (ji9)) != 10) = true := bne_iff_ne.mpr c12
         have c15b0 := eq_true (od : 0 ≤ x6_1)
         by_cases c16 : x6_1 ≤ (ji9)
         ·rw [if_pos c16] at H
          have c16b0 := eq_true c16
          have c16b1 : decide (x6_1 ≤ (ji9)) = true := decide_eq_true c16
          clear c16
          by_cases c17 : (ji9) ≤ (a0_1.size : Int)
          ·rw [if_pos c17] at H
           have c17b0 := eq_true c17
           have c17b1 : decide ((ji9) ≤ (a0_1.size : Int)) = true := decide_eq_true c17
           clear c17
           by_cases c18 : x4_1.size + (a0_1.extract (x6_1 : Int).toNat ((ji9) : Int).toNat).size ≤ 9223372036854775807
           ·rw [if_pos c18] at H
            have c18b0 := eq_true c18
            have c18b1 : decide (x4_1.size + (a0_1.extract (x6_1 : Int).toNat ((ji9) : Int).toNat).size ≤ 9223372036854775807) = true := decide_eq_true c18
            try have c18b2 : (9223372036854775807 < x4_1.size + (a0_1.extract (x6_1 : Int).toNat ((ji9) : Int).toNat).size) = False := eq_false (Nat.not_lt.2 c18)
            try (have c18b3 := c18; simp only [ByteArray.size_append, size_lit, ByteArray.size_extract, List.size_toArray, List.length_cons, List.length_nil, Nat.zero_add, Nat.reduceAdd] at c18b3; have c18b4 := eq_false (Nat.not_lt.2 c18b3))
            have H' := Aside0.mk H
            clear H
            have p6 : 0 ≤ (x6_1 : Int) := od
            have q6 : x6_1 < (a0_1.size : Int) := od
            have hx6 := bt_at a0_1 x6_1
            replace p6 := eq_true p6
            replace q6 := eq_true q6
            have p11 : 0 ≤ ((ji9) : Int) := od
            have q11 : (ji9) < (a0_1.size : Int) := od
            have hx11 := bt_at a0_1 (ji9)
            replace p11 := eq_true p11
            replace q11 := eq_true q11
            go_wp2
            go_roundg k1
            case measure => have := HK1.out; omega
            case rel => exact ⟨(x3_1), (x4_1 ++ (a0_1.extract (x6_1 : Int).toNat ((ji9) : Int).toNat)), (ji9), (by first | rfl | (simp; done) | (simp only [← hji9] <;> (first | rfl | simp)) | (simp [*]; done) | (simp [nil_ne]; done)), (by first | rfl | (simp; done) | (simp only [← hji9] <;> (first | rfl | simp)) | (simp [*]; done) | (simp [nil_ne]; done)), H', ⟨by have := HK1.out; omega⟩, ⟨by (with_reducible repeat (first | apply Kd.R_alloc | apply Kd.R_drewN | apply Kd.R_drew)); exact HO_3.out⟩, ⟨bk⟩, ⟨bwS⟩⟩
           ·rw [if_neg c18] at H
            exact absurd H (by simp)
          ·rw [if_neg c17] at H
           exact absurd H (by simp)
         ·rw [if_neg c16] at H
          exact absurd H (by simp)
       ·rw [if_neg c10] at H
        exact absurd H (by simp)
      ·rw [if_neg c8] at H
       have c8b0 : decide ((wrap64 (x6_1 + 1)) < (a0_1.size : Int)) = false := decide_eq_false c8
       clear c8
       have c19b0 := eq_true (od : 0 ≤ x6_1)
       by_cases c20 : x6_1 ≤ (wrap64 (x6_1 + 1))
       ·rw [if_pos c20] at H
        have c20b0 := eq_true c20
        have c20b1 : decide (x6_1 ≤ (wrap64 (x6_1 + 1))) = true := decide_eq_true c20
        by_cases c21 : (wrap64 (x6_1 + 1)) ≤ (a0_1.size : Int)
        ·rw [if_pos c21] at H
         have c21b0 := eq_true c21
         have c21b1 : decide ((wrap64 (x6_1 + 1)) ≤ (a0_1.size : Int)) = true := decide_eq_true c21
         by_cases c22 : x4_1.size + (a0_1.extract (x6_1 : Int).toNat ((wrap64 (x6_1 + 1)) : Int).toNat).size ≤ 9223372036854775807
         ·rw [if_pos c22] at H
          have c22b0 := eq_true c22
          have c22b1 : decide (x4_1.size + (a0_1.extract (x6_1 : Int).toNat ((wrap64 (x6_1 + 1)) : Int).toNat).size ≤ 9223372036854775807) = true := decide_eq_true c22
          try have c22b2 : (9223372036854775807 < x4_1.size + (a0_1.extract (x6_1 : Int).toNat ((wrap64 (x6_1 + 1)) : Int).toNat).size) = False := eq_false (Nat.not_lt.2 c22)
          try (have c22b3 := c22; simp only [ByteArray.size_append, size_lit, ByteArray.size_extract, List.size_toArray, List.length_cons, List.length_nil, Nat.zero_add, Nat.reduceAdd] at c22b3; have c22b4 := eq_false (Nat.not_lt.2 c22b3))
          have H' := Aside0.mk H
          clear H
          have p6 : 0 ≤ (x6_1 : Int) := od
          have q6 : x6_1 < (a0_1.size : Int) := od
          have hx6 := bt_at a0_1 x6_1
          replace p6 := eq_true p6
          replace q6 := eq_true q6
          go_wp2
          go_roundg k1
          case measure => have := HK1.out; omega
          case rel => exact ⟨(x3_1), (x4_1 ++ (a0_1.extract (x6_1 : Int).toNat ((wrap64 (x6_1 + 1)) : Int).toNat)), (wrap64 (x6_1 + 1)), cl, cl, H', ⟨by have := HK1.out; omega⟩, ⟨by (with_reducible repeat (first | apply Kd.R_alloc | apply Kd.R_drewN | apply Kd.R_drew)); exact HO_3.out⟩, ⟨bk⟩, ⟨bwS⟩⟩
         ·rw [if_neg c22] at H
          exact absurd H (by simp)
        ·rw [if_neg c21] at H
         exact absurd H (by simp)
       ·rw [if_neg c20] at H
        exact absurd H (by simp)
     ·rw [if_neg c7] at H
      have c7b0 : ((bt a0_1 x6_1) == 13) = false := beq_eq_false_iff_ne.mpr c7
      have c7b1 : ((bt a0_1 x6_1) != 13) = true := bne_iff_ne.mpr c7
      have c23b0 := eq_true (od : 0 ≤ x6_1)
      by_cases c24 : x6_1 ≤ (wrap64 (x6_1 + 1))
      ·rw [if_pos c24] at H
       have c24b0 := eq_true c24
       have c24b1 : decide (x6_1 ≤ (wrap64 (x6_1 + 1))) = true := decide_eq_true c24
       by_cases c25 : (wrap64 (x6_1 + 1)) ≤ (a0_1.size : Int)
       ·rw [if_pos c25] at H
        have c25b0 := eq_true c25
        have c25b1 : decide ((wrap64 (x6_1 + 1)) ≤ (a0_1.size : Int)) = true := decide_eq_true c25
        by_cases c26 : x4_1.size + (a0_1.extract (x6_1 : Int).toNat ((wrap64 (x6_1 + 1)) : Int).toNat).size ≤ 9223372036854775807
        ·rw [if_pos c26] at H
         have c26b0 := eq_true c26
         have c26b1 : decide (x4_1.size + (a0_1.extract (x6_1 : Int).toNat ((wrap64 (x6_1 + 1)) : Int).toNat).size ≤ 9223372036854775807) = true := decide_eq_true c26
         try have c26b2 : (9223372036854775807 < x4_1.size + (a0_1.extract (x6_1 : Int).toNat ((wrap64 (x6_1 + 1)) : Int).toNat).size) = False := eq_false (Nat.not_lt.2 c26)
         try (have c26b3 := c26; simp only [ByteArray.size_append, size_lit, ByteArray.size_extract, List.size_toArray, List.length_cons, List.length_nil, Nat.zero_add, Nat.reduceAdd] at c26b3; have c26b4 := eq_false (Nat.not_lt.2 c26b3))
         have H' := Aside0.mk H
         clear H
         have p6 : 0 ≤ (x6_1 : Int) := od
         have q6 : x6_1 < (a0_1.size : Int) := od
         have hx6 := bt_at a0_1 x6_1
         replace p6 := eq_true p6
         replace q6 := eq_true q6
         go_wp2
         go_roundg k1
         case measure => have := HK1.out; omega
         case rel => exact ⟨(x3_1), (x4_1 ++ (a0_1.extract (x6_1 : Int).toNat ((wrap64 (x6_1 + 1)) : Int).toNat)), (wrap64 (x6_1 + 1)), cl, cl, H', ⟨by have := HK1.out; omega⟩, ⟨by (with_reducible repeat (first | apply Kd.R_alloc | apply Kd.R_drewN | apply Kd.R_drew)); exact HO_3.out⟩, ⟨bk⟩, ⟨bwS⟩⟩
        ·rw [if_neg c26] at H
         exact absurd H (by simp)
       ·rw [if_neg c25] at H
        exact absurd H (by simp)
      ·rw [if_neg c24] at H
       exact absurd H (by simp)
    ·rw [if_neg c5] at H
     exact absurd H (by simp)
   ·rw [if_neg c4] at H
    have c4b0 : decide (x6_1 < (a0_1.size : Int)) = false := decide_eq_false c4
    clear c4
    by_cases c27 : x4_1.toList = ([] : List UInt8)
    ·rw [if_pos c27] at H
     have c27b0 : (x4_1.toList == ([] : List UInt8)) = true := beq_iff_eq.mpr c27
     have c27b1 : (x4_1.toList != ([] : List UInt8)) = false := bne_eq_false_iff_eq.mpr c27
     clear c27
     obtain rfl := Option.some.inj H
     go_wp2
     go_ret
     exact ⟨_, by first | rfl | (simp [errW_none, errW_some] <;> rfl) | (simp [*, errW_none, errW_some] <;> rfl), by (with_reducible repeat (first | apply Kd.R_alloc | apply Kd.R_drewN | apply Kd.R_drew)); exact HO_3.out, bwS⟩
    ·rw [if_neg c27] at H
     have c27b0 : (x4_1.toList == ([] : List UInt8)) = false := beq_eq_false_iff_ne.mpr c27
     have c27b1 : (x4_1.toList != ([] : List UInt8)) = true := bne_iff_ne.mpr c27
     by_cases c28 : x3_1.length < 8796093022208
     ·rw [if_pos c28] at H
      have LMc28 := Aside0.mk c28
      clear c28
      obtain ⟨y376, hy376⟩ : ∃ y_ : List ByteArray, y_ = (x3_1 ++ [x4_1]) := ⟨_, rfl⟩
      replace H : (some y376) = some r := by first | (rw [hy376]; with_reducible exact H) | (have H2_ := (Option.bind_some _ _).symm.trans H; rw [hy376]; with_reducible exact H2_) | (have H2_ := (Option.bind_some _ _).symm.trans H; with_reducible exact H2_) | with_reducible exact H | (rw [hy376]; exact H) | exact H
      have Ny376 := Aside0.mk hy376
      clear hy376
      obtain rfl := Option.some.inj H
      go_wp2_with (first | ((with_reducible refine gate_builtin (b := .append) (xs := #[.tmp 48, .tmp 50]) rfl ?_); (try (refine gate_guard (by rfl) ?_; dsimp only)); at_builtin; refine Kd.R_append Kd.string (w0 := w) w.heap.size rfl (.tmp 48) (.tmp 50) 39 9 (.string ⟨#[]⟩) 16 rfl Tryz.underlying39 info9 rfl (by decide) (by omega) u3 x3_1 x4_1 [.string x4_1] (fun _ => True) (fun _ => False) rfl rfl ?aP (fun _ hk => hk.elim) ?aF ?aO ?aB ?aS ?aL ?_; (case aP => exact rfl); (case aB => exact bwS); (case aF => exact (fun _ _ => trivial)); (case aO => exact (by (with_reducible repeat (first | apply Kd.R_alloc | apply Kd.R_drewN | apply Kd.R_drew)); exact HO_3.out)); (case aS => exact (below_size bwS)); (case aL => have := LMc28.out; omega); intro v377 w29 ho hb hg hat; rw [← Ny376.out] at ho; have n0_ := Aside0.mk (blk_grown (g := gb372) (o := .cells #[.slice A0_0 l0_0.length c0_0, .string a0_1] 31 (0, 0)) bk hg (Kd.R_ne HO_3.out BK372.out (by decide))); have n1_ := Aside0.mk (hb); have n2_ := Aside0.mk (ho); clear BK372; clear HB; clear HO_3; have BK372 := n0_; have HB := n1_; have HO378 := n2_; clear n0_ n1_ n2_; clear ho hb hg hat))
      go_ret
      exact ⟨_, by first | rfl | (simp [errW_none, errW_some] <;> rfl) | (simp [*, errW_none, errW_some] <;> rfl), by (with_reducible repeat (first | apply Kd.R_alloc | apply Kd.R_drewN | apply Kd.R_drew)); exact HO378.out, bwS⟩
     ·rw [if_neg c28] at H
      exact absurd H (by simp)

end Go.Proofs.YtbjbpgmjijeppaaGreatDoor.Fn
namespace Go.Proofs.YtbjbpgmjijeppaaGreatDoor.Fn
open Go.RowKit Go.Proofs.YtbjbpgmjijeppaaGreatDoorW.PrintWords Go.Proofs.YtbjbpgmjijeppaaGreatDoorW.PrintLast Go.Proofs.YtbjbpgmjijeppaaGreatDoorW.PrintMore
attribute [local go_sem] max2_int min2_int max_two min_two max_three min_three max_four min_four
set_option linter.unusedVariables false
set_option linter.unusedSimpArgs false

/-! ### bulletinlaw16_MsgLines: function 4 -/
def bulletinlaw16_MsgLines.f (k : Nat) (l0_0 : List (S67)) (a0_1 : ByteArray) : Option (Bool) := if (a0_1.size : Int) > 3000 then ((bulletinlaw16_works.f k).bind fun t380 => (some t380)) else ((msg_Message_Lines.f k ([] : List (S46)) a0_1).bind fun t382 => ((bulletinref16_Lines.f k ([] : List (S67)) a0_1).bind fun t385 => ((bulletinbook_SameTexts.f k t382 t385).bind fun t388 => (if t388 = true then ((bulletinlaw16_works.f k).bind fun t389 => (some t389)) else (some false)))))
def bulletinlaw16_MsgLines.T4 : Bool × List (List Nat × List Nat) := (true, [([], []), ([0], [0]), ([], []), ([2], [2]), ([3], [3]), ([4, 1], [4]), ([1, 5, 5], [1, 5]), ([6, 6], [6]), ([7, 7], [7]), ([7, 8], [7, 8]), ([9, 8, 0, 1, 2, 3, 4, 5, 6, 7, 8, 9], [9])])
def bulletinlaw16_MsgLines.B4 : List Nat := [0, 1, 0, 4, 12, 31, 63, 127, 255, 511, 1023]
theorem bulletinlaw16_MsgLines.tab4 : rtab .any (opsOf Tryz.f4 4) = bulletinlaw16_MsgLines.T4 := by kernel_rfl
theorem bulletinlaw16_MsgLines.bits4 : waitsOk bulletinlaw16_MsgLines.T4.2 bulletinlaw16_MsgLines.B4 = true := by kernel_rfl
set_option maxHeartbeats 8000000 in
set_option maxRecDepth 100000 in
theorem bulletinlaw16_MsgLines.calls (k : Nat) (A0_0 : Option Addr) (c0_0 : Nat) (l0_0 : List (S67)) (a0_1 : ByteArray) (r : Bool) (w : World) (hG : Glob w) (hr0_0 : Kd.C k67 w A0_0 l0_0.length l0_0) (hc0_0 : l0_0.length ≤ c0_0) (h : bulletinlaw16_MsgLines.f k l0_0 a0_1 = some r) :
  Calls Tryz.prog 4 #[.agg #[.slice A0_0 l0_0.length c0_0, .string a0_1]] w fun e w' => e = .returned (.bool r) ∧ Below w.heap.size w w' := by
 have hu31 := Tryz.underlying31
 have hu25 := Tryz.underlying25
 have HR0_0 := Aside0.mk hr0_0
 have HC0_0 := Aside0.mk hc0_0
 clear hr0_0 hc0_0
 have HB := Aside0.mk (Below.refl w.heap.size w)
 have H : (if (a0_1.size : Int) > 3000 then ((bulletinlaw16_works.f k).bind fun t380 => (some t380)) else ((msg_Message_Lines.f k ([] : List (S46)) a0_1).bind fun t382 => ((bulletinref16_Lines.f k ([] : List (S67)) a0_1).bind fun t385 => ((bulletinbook_SameTexts.f k t382 t385).bind fun t388 => (if t388 = true then ((bulletinlaw16_works.f k).bind fun t389 => (some t389)) else (some false)))))) = some r := h
 clear h
 by_cases c2 : (a0_1.size : Int) > 3000
 ·rw [if_pos c2] at H
  have c2b0 : decide (3000 < (a0_1.size : Int)) = true := decide_eq_true c2
  have c2b1 : decide (3000 < a0_1.size) = true := decide_eq_true (by omega)
  clear c2
  replace H := Option.bind_eq_some_iff.mp H
  obtain ⟨t380, A30, H⟩ := H
  replace H : (some t380) = some r := H
  have A3 := Aside0.mk A30
  clear A30
  obtain rfl := Option.some.inj H
  go_enter Tryz.func4, Tryz.ntmps4
  go_wp2_with (first | ((with_reducible refine gate_dst (N := 1) rfl ?_); refine box_event ?hg (N := 1) ?hd (cs := #[.slice A0_0 l0_0.length c0_0, .string a0_1]) (t := 31) ?hr ?_; (case hd => rfl); (case hg => rfl); (case hr => first | (go_simp; done) | (go_simp; rfl)); intro gb379 hg w4 hbox hb; have n0_ := Aside0.mk (below_step bw hb); have n1_ := Aside0.mk (hbox); have n2_ := Aside0.mk ((by rw [hg]; exact (below_size bw) : w.heap.size ≤ gb379)); have n3_ := Aside0.mk ((by rw [hg]; exact (below_size bw) : w.heap.size ≤ gb379)); clear HB; have HB := n0_; have BK379 := n1_; have GW379 := n2_; have GE379 := n3_; clear n0_ n1_ n2_ n3_; clear hb hbox hg; have hcz5_0 : w4.cell? ⟨gb379, 0, none⟩ = some (.slice A0_0 l0_0.length c0_0) := (blk_cell BK379.out 0).trans rfl; have hcz5_1 : w4.cell? ⟨gb379, 1, none⟩ = some (.string a0_1) := (blk_cell BK379.out 1).trans rfl; have hfz5_0 := blk_frozen BK379.out 0; have hfz5_1 := blk_frozen BK379.out 1) | ((with_reducible refine gate_callee (f := 9) rfl ?_); refine goesL_ (some 8) rfl rfl Tryz.func9 (by kernel_rfl) rfl #[] rfl am ?_; (with_reducible refine (bulletinlaw16_works.calls (hG := by first | exact hG | exact Glob.below hG (by first | exact HB.out | (repeat (first | (with_reducible first | exact HB.out | apply below_alloc | apply pw_below_drewN | apply below_drew1 | refine below_set ?_ GE379.out | refine below_set ?_ GE381.out) | exact HB.out))) | exact Glob.drawn hG (by repeat (first | exact Drawn0.refl _ | apply Drawn0.step))) k  t380 _ A3.out).mono ?_); rintro e w6 ⟨rfl, hb⟩; refine ⟨_, rfl, ?_⟩; have n0_ := Aside0.mk (blk_below (g := gb379) (o := .cells #[.slice A0_0 l0_0.length c0_0, .string a0_1] 31 (0, 0)) bk hb); have n1_ := Aside0.mk (below_step bwS hb); clear BK379; clear HB; have BK379 := n0_; have HB := n1_; clear n0_ n1_; (try clear hb); (try clear hb2); (try clear hk); (try clear hi)))
  go_ret
  exact ⟨by first | rfl | (simp [errW_none, errW_some] <;> rfl) | (simp [*, errW_none, errW_some] <;> rfl), bwS⟩
 ·rw [if_neg c2] at H
  have c2b0 : decide (3000 < (a0_1.size : Int)) = false := decide_eq_false c2
  have c2b1 : decide (3000 < a0_1.size) = false := decide_eq_false (by omega)
  clear c2
  replace H := Option.bind_eq_some_iff.mp H
  obtain ⟨t382, A70, H⟩ := H
  replace H : ((bulletinref16_Lines.f k ([] : List (S67)) a0_1).bind fun t385 => ((bulletinbook_SameTexts.f k t382 t385).bind fun t388 => (if t388 = true then ((bulletinlaw16_works.f k).bind fun t389 => (some t389)) else (some false)))) = some r := H
  have A7 := Aside0.mk A70
  clear A70
  replace H := Option.bind_eq_some_iff.mp H
  obtain ⟨t385, A80, H⟩ := H
  replace H : ((bulletinbook_SameTexts.f k t382 t385).bind fun t388 => (if t388 = true then ((bulletinlaw16_works.f k).bind fun t389 => (some t389)) else (some false))) = some r := H
  have A8 := Aside0.mk A80
  clear A80
  replace H := Option.bind_eq_some_iff.mp H
  obtain ⟨t388, A90, H⟩ := H
  replace H : (if t388 = true then ((bulletinlaw16_works.f k).bind fun t389 => (some t389)) else (some false)) = some r := H
  have A9 := Aside0.mk A90
  clear A90
  by_cases c10 : t388 = true
  ·subst c10
   have H1 : ((bulletinlaw16_works.f k).bind fun t389 => (some t389)) = some r := by rw [if_pos rfl] at H; exact H
   clear H
   have H := H1
   clear H1
   replace H := Option.bind_eq_some_iff.mp H
   obtain ⟨t389, A110, H⟩ := H
   replace H : (some t389) = some r := H
   have A11 := Aside0.mk A110
   clear A110
   obtain rfl := Option.some.inj H
   go_enter Tryz.func4, Tryz.ntmps4
   try go_wp2_with (first | ((with_reducible refine gate_dst (N := 1) rfl ?_); refine box_event ?hg (N := 1) ?hd (cs := #[.slice A0_0 l0_0.length c0_0, .string a0_1]) (t := 31) ?hr ?_; (case hd => rfl); (case hg => rfl); (case hr => first | (go_simp; done) | (go_simp; rfl)); intro gb379 hg w12 hbox hb; have n0_ := Aside0.mk (below_step bw hb); have n1_ := Aside0.mk (hbox); have n2_ := Aside0.mk ((by rw [hg]; exact (below_size bw) : w.heap.size ≤ gb379)); have n3_ := Aside0.mk ((by rw [hg]; exact (below_size bw) : w.heap.size ≤ gb379)); clear HB; have HB := n0_; have BK379 := n1_; have GW379 := n2_; have GE379 := n3_; clear n0_ n1_ n2_ n3_; clear hb hbox hg; have hcz13_0 : w12.cell? ⟨gb379, 0, none⟩ = some (.slice A0_0 l0_0.length c0_0) := (blk_cell BK379.out 0).trans rfl; have hcz13_1 : w12.cell? ⟨gb379, 1, none⟩ = some (.string a0_1) := (blk_cell BK379.out 1).trans rfl; have hfz13_0 := blk_frozen BK379.out 0; have hfz13_1 := blk_frozen BK379.out 1) | ((with_reducible refine gate_dst (N := 3) rfl ?_); refine box_event ?hg (N := 3) ?hd (cs := #[.slice none 0 0, .string (⟨#[]⟩ : ByteArray)]) (t := 25) ?hr ?_; (case hd => rfl); (case hg => rfl); (case hr => first | (go_simp; done) | (go_simp; rfl)); intro gb381 hg w14 hbox hb; have n0_ := Aside0.mk (blk_below (g := gb379) (o := .cells #[.slice A0_0 l0_0.length c0_0, .string a0_1] 31 (0, 0)) bk hb); have n1_ := Aside0.mk (below_step bwS hb); have n2_ := Aside0.mk (hbox); have n3_ := Aside0.mk ((by rw [hg]; exact (below_size bwS) : w.heap.size ≤ gb381)); have n4_ := Aside0.mk ((by rw [hg]; exact (below_size bwS) : w.heap.size ≤ gb381)); have n5_ := Aside0.mk ((by rw [hg]; exact Nat.ne_of_lt (blk_lt (g := gb379) (o := .cells #[.slice A0_0 l0_0.length c0_0, .string a0_1] 31 (0, 0)) bk) : gb379 ≠ gb381)); have n6_ := Aside0.mk ((by rw [hg]; exact Nat.ne_of_gt (blk_lt (g := gb379) (o := .cells #[.slice A0_0 l0_0.length c0_0, .string a0_1] 31 (0, 0)) bk) : gb381 ≠ gb379)); clear BK379; clear HB; have BK379 := n0_; have HB := n1_; have BK381 := n2_; have GW381 := n3_; have GE381 := n4_; have NB379_381 := n5_; have NB381_379 := n6_; clear n0_ n1_ n2_ n3_ n4_ n5_ n6_; clear hb hbox hg; have hnb15 := NB381_379.out; have hnc15 := NB379_381.out; have hcz16_0 : w14.cell? ⟨gb381, 0, none⟩ = some (.slice none 0 0) := (blk_cell BK381.out 0).trans rfl; have hcz16_1 : w14.cell? ⟨gb381, 1, none⟩ = some (.string (⟨#[]⟩ : ByteArray)) := (blk_cell BK381.out 1).trans rfl; have hfz16_0 := blk_frozen BK381.out 0; have hfz16_1 := blk_frozen BK381.out 1))
   have n0_ : Aside0 (((w14.setCell ⟨gb381, 0, none⟩ (.slice none 0 0)).setCell ⟨gb381, 1, none⟩ (.string a0_1)).heap[gb379]? = some (.cells #[.slice A0_0 l0_0.length c0_0, .string a0_1] 31 (0, 0))) := ⟨by (with_reducible repeat (first | refine blk_drewN ?_ _ | refine blk_drew ?_ | refine blk_alloc ?_ _)); refine blk_far ?_ NB379_381.out _; (with_reducible repeat (first | refine blk_drewN ?_ _ | refine blk_drew ?_ | refine blk_alloc ?_ _)); refine blk_far ?_ NB379_381.out _; (with_reducible repeat (first | refine blk_drewN ?_ _ | refine blk_drew ?_ | refine blk_alloc ?_ _)); exact BK379.out⟩
   have n1_ : Aside0 (((w14.setCell ⟨gb381, 0, none⟩ (.slice none 0 0)).setCell ⟨gb381, 1, none⟩ (.string a0_1)).heap[gb381]? = some (.cells #[.slice none 0 0, .string a0_1] 25 (0, 0))) := ⟨by (with_reducible repeat (first | refine blk_drewN ?_ _ | refine blk_drew ?_ | refine blk_alloc ?_ _)); refine blk_put (cs := #[.slice none 0 0, .string (⟨#[]⟩ : ByteArray)]) ?_ 1 _ rfl; (with_reducible repeat (first | refine blk_drewN ?_ _ | refine blk_drew ?_ | refine blk_alloc ?_ _)); refine blk_put (cs := #[.slice none 0 0, .string (⟨#[]⟩ : ByteArray)]) ?_ 0 _ rfl; (with_reducible repeat (first | refine blk_drewN ?_ _ | refine blk_drew ?_ | refine blk_alloc ?_ _)); exact BK381.out⟩
   have n2_ : Aside0 (Below w.heap.size w ((w14.setCell ⟨gb381, 0, none⟩ (.slice none 0 0)).setCell ⟨gb381, 1, none⟩ (.string a0_1))) := ⟨bwS⟩
   (try clear BK379)
   (try clear BK381)
   (try clear HB)
   generalize ((w14.setCell ⟨gb381, 0, none⟩ (.slice none 0 0)).setCell ⟨gb381, 1, none⟩ (.string a0_1)) = w17 at n0_ n1_ n2_ ⊢
   have BK379 := n0_
   have BK381 := n1_
   have HB := n2_
   clear n0_ n1_ n2_
   have n0_ := Aside0.mk (blk_drew BK379.out)
   have n1_ := Aside0.mk (blk_drew BK381.out)
   have n2_ := Aside0.mk (below_drew1 HB.out)
   clear BK379
   clear BK381
   clear HB
   have BK379 := n0_
   have BK381 := n1_
   have HB := n2_
   clear n0_ n1_ n2_
   refine start_ (n := 11) (S := fun w' => w'.cell? ⟨gb381, 0, none⟩ = some (.slice none 0 0) ∧ w'.cell? ⟨gb381, 1, none⟩ = some (.string a0_1) ∧ w'.cell? ⟨gb379, 0, none⟩ = some (.slice A0_0 l0_0.length c0_0) ∧ w'.cell? ⟨gb379, 1, none⟩ = some (.string a0_1)) (ds := []) #[false, false, false, false, false, false, false, false, false, false, false] (by kernel_rfl) rfl rfl ⟨(blk_cell BK381.out 0).trans rfl, (blk_cell BK381.out 1).trans rfl, (blk_cell BK379.out 0).trans rfl, (blk_cell BK379.out 1).trans rfl⟩ (fun hHeld => ?_); refine with_tabW bulletinlaw16_MsgLines.tab4 bulletinlaw16_MsgLines.bits4 (fun HT_ HW_ => ?_)
   generalize w17.drew = w18 at BK379 BK381 HB hHeld ⊢
   refine pure_ (i := 2) (N := some 14) (v := ?_) (a' := ?_) (bitsL 11 4) rfl rfl (any_of HT_.out (by kernel_rfl)) (fun _ _ _ h => h) (Or.inl ⟨by rfl, ?_⟩) ?_ ?_
   rotate_left
   ·intro w'
    go_simp
    with_reducible rfl
   rotate_left
   ·simp only [Act.put, List.setIfInBounds_toArray, List.set_cons_zero, List.set_cons_succ, i64_w, i32_w]
    rfl
   refine take_ (i := 0) (N := some 12) (v := ?_) (a' := ?_) (bitsL 11 5) rfl rfl (take_ofW HT_.out HW_.out (by kernel_rfl)) (fun _ _ _ h => h) (Or.inl ⟨by rfl, ?_⟩) hHeld ?_ ?_
   rotate_left
   ·rintro w' ⟨s0, s1, s2, s3⟩
    go_simp
    with_reducible rfl
   rotate_left
   ·simp only [Act.put, List.setIfInBounds_toArray, List.set_cons_zero, List.set_cons_succ, i64_w, i32_w]
    rfl
   refine take_ (i := 3) (N := some 15) (v := ?_) (a' := ?_) (bitsL 11 13) rfl rfl (take_ofW HT_.out HW_.out (by kernel_rfl)) (fun _ _ _ h => h) (Or.inl ⟨by rfl, ?_⟩) hHeld ?_ ?_
   rotate_left
   ·rintro w' ⟨s0, s1, s2, s3⟩
    go_simp
    with_reducible rfl
   rotate_left
   ·simp only [Act.put, List.setIfInBounds_toArray, List.set_cons_zero, List.set_cons_succ, i64_w, i32_w]
    rfl
   refine pure_ (i := 4) (N := some 16) (v := ?_) (a' := ?_) (bitsL 11 29) rfl rfl (any_of HT_.out (by kernel_rfl)) (fun _ _ _ h => h) (Or.inl ⟨by rfl, ?_⟩) ?_ ?_
   rotate_left
   ·intro w'
    go_simp
    with_reducible rfl
   rotate_left
   ·simp only [Act.put, List.setIfInBounds_toArray, List.set_cons_zero, List.set_cons_succ, i64_w, i32_w]
    rfl
   refine one_ (i := 1) (N := some 13) (bitsL 11 31) rfl rfl (one_of HT_.out (by kernel_rfl)) (by decide) (fun K hK => ?_)
   refine goes_ Tryz.func16 (by kernel_rfl) rfl #[.agg #[.slice none 0 0, .string a0_1]] (by rfl) rfl rfl am ?_
   refine (msg_Message_Lines.calls (hG := by first | exact hG | exact Glob.below hG (by first | exact HB.out | (repeat (first | (with_reducible first | exact HB.out | apply below_alloc | apply pw_below_drewN | apply below_drew1 | refine below_set ?_ GE379.out | refine below_set ?_ GE381.out) | exact HB.out))) | exact Glob.drawn hG (by repeat (first | exact Drawn0.refl _ | apply Drawn0.step))) k _ _ ([] : List (S46)) a0_1 t382 _ ?side1 ?side2 A7.out).mono ?_
   (case side1 => exact Kd.C_nil _ _)
   (case side2 => exact Nat.le_refl _)
   rintro e w19 ⟨v383, rfl, ho0, hb⟩
   refine ⟨_, rfl, ?_⟩
   have n0_ := Aside0.mk (Kd.R_lower ho0 (below_size bwS))
   have n1_ := Aside0.mk (blk_below (g := gb379) (o := .cells #[.slice A0_0 l0_0.length c0_0, .string a0_1] 31 (0, 0)) bk hb)
   have n2_ := Aside0.mk (blk_below (g := gb381) (o := .cells #[.slice none 0 0, .string a0_1] 25 (0, 0)) bk hb)
   have n3_ := Aside0.mk (below_step bwS hb)
   clear BK379
   clear BK381
   clear HB
   have HO384 := n0_
   have BK379 := n1_
   have BK381 := n2_
   have HB := n3_
   clear n0_ n1_ n2_ n3_
   (try clear hb)
   (try clear hb2)
   (try clear hk)
   (try clear hi)
   (try clear ho0)
   refine hK.out _ _ ⟨(blk_cell BK381.out 0).trans rfl, (blk_cell BK381.out 1).trans rfl, (blk_cell BK379.out 0).trans rfl, (blk_cell BK379.out 1).trans rfl⟩ (fun hHeld => ?_)
   clear hK K
   refine norm_ (a' := ?_) ?_ ?_
   rotate_left
   ·show Act.put _ (some 13) _ = _
    simp only [Act.put, List.setIfInBounds_toArray, List.set_cons_zero, List.set_cons_succ, i64_w, i32_w]
    rfl
   refine one_ (i := 5) (N := some 17) (bitsL 11 63) rfl rfl (one_of HT_.out (by kernel_rfl)) (by decide) (fun K hK => ?_)
   refine goes_ Tryz.func17 (by kernel_rfl) rfl #[.agg #[.slice none 0 0, .string a0_1]] (by rfl) rfl rfl am ?_
   refine (bulletinref16_Lines.calls k _ _ ([] : List (S67)) a0_1 t385 _ ?side1 ?side2 A8.out).mono ?_
   (case side1 => exact Kd.C_nil _ _)
   (case side2 => exact Nat.le_refl _)
   rintro e w20 ⟨v386, rfl, ho0, hb⟩
   refine ⟨_, rfl, ?_⟩
   have n0_ := Aside0.mk (Kd.R_elder' (by (with_reducible repeat (first | apply Kd.R_alloc | apply Kd.R_drewN | apply Kd.R_drew)); exact HO384.out) (Kd.R_base ho0) hb)
   have n1_ := Aside0.mk (Kd.R_lower (Kd.R_new' ho0 (Kd.R_lt (by (with_reducible repeat (first | apply Kd.R_alloc | apply Kd.R_drewN | apply Kd.R_drew)); exact HO384.out))) (below_size bwS))
   have n2_ := Aside0.mk (blk_below (g := gb379) (o := .cells #[.slice A0_0 l0_0.length c0_0, .string a0_1] 31 (0, 0)) bk hb)
   have n3_ := Aside0.mk (blk_below (g := gb381) (o := .cells #[.slice none 0 0, .string a0_1] 25 (0, 0)) bk hb)
   have n4_ := Aside0.mk (below_step bwS hb)
   clear HO384
   clear BK379
   clear BK381
   clear HB
   have HO384 := n0_
   have HO387 := n1_
   have BK379 := n2_
   have BK381 := n3_
   have HB := n4_
   clear n0_ n1_ n2_ n3_ n4_
   (try clear hb)
   (try clear hb2)
   (try clear hk)
   (try clear hi)
   (try clear ho0)
   obtain ⟨Ao21, co21, eo21⟩ := Kd.R_slice HO384.out
   (first | subst eo21 | (injection eo21 with f1_ f2_ f3_; have f4_ := f1_.symm; have f5_ := f3_.symm; clear f1_ f2_ f3_; subst f4_; subst f5_))
   obtain ⟨Ao22, co22, eo22⟩ := Kd.R_slice HO387.out
   (first | subst eo22 | (injection eo22 with f1_ f2_ f3_; have f4_ := f1_.symm; have f5_ := f3_.symm; clear f1_ f2_ f3_; subst f4_; subst f5_))
   refine hK.out _ _ ⟨(blk_cell BK381.out 0).trans rfl, (blk_cell BK381.out 1).trans rfl, (blk_cell BK379.out 0).trans rfl, (blk_cell BK379.out 1).trans rfl⟩ (fun hHeld => ?_)
   clear hK K
   refine norm_ (a' := ?_) ?_ ?_
   rotate_left
   ·show Act.put _ (some 17) _ = _
    simp only [Act.put, List.setIfInBounds_toArray, List.set_cons_zero, List.set_cons_succ, i64_w, i32_w]
    rfl
   refine one_ (i := 6) (N := some 18) (bitsL 11 127) rfl rfl (one_of HT_.out (by kernel_rfl)) (by decide) (fun K hK => ?_)
   refine goes_ Tryz.func15 (by kernel_rfl) rfl #[.slice Ao21 t382.length co21, .slice Ao22 t385.length co22] (by rfl) rfl rfl am ?_
   with_reducible refine (bulletinbook_SameTexts.calls k _ _ t382 _ _ t385 true _ ?side1 ?side2 ?side3 ?side4 A9.out).mono ?_
   (case side1 => repeat (first | exact (Kd.R_reads' HO384.out).2.2 | (with_reducible refine Kd.C_alloc ?_ _) | (with_reducible refine Kd.C_drewN ?_ _) | (with_reducible refine Kd.C_drew ?_)))
   (case side2 => exact (Kd.R_reads' HO384.out).2.1)
   (case side3 => repeat (first | exact (Kd.R_reads' HO387.out).2.2 | (with_reducible refine Kd.C_alloc ?_ _) | (with_reducible refine Kd.C_drewN ?_ _) | (with_reducible refine Kd.C_drew ?_)))
   (case side4 => exact (Kd.R_reads' HO387.out).2.1)
   rintro e w' ⟨rfl, ⟨nd, rfl⟩⟩
   refine ⟨_, rfl, ?_⟩
   refine hK.out _ _ ⟨(blk_cell BK381.out 0).trans rfl, (blk_cell BK381.out 1).trans rfl, (blk_cell BK379.out 0).trans rfl, (blk_cell BK379.out 1).trans rfl⟩ (fun hHeld => ?_)
   clear hK K
   refine norm_ (a' := ?_) ?_ ?_
   rotate_left
   ·show Act.put _ (some 18) _ = _
    simp only [Act.put, List.setIfInBounds_toArray, List.set_cons_zero, List.set_cons_succ, i64_w, i32_w]
    rfl
   refine pure_ (i := 7) (N := some 19) (v := ?_) (a' := ?_) (bitsL 11 255) rfl rfl (any_of HT_.out (by kernel_rfl)) (fun _ _ _ h => h) (Or.inl ⟨by rfl, ?_⟩) ?_ ?_
   rotate_left
   ·intro w'
    go_simp
    with_reducible rfl
   rotate_left
   ·simp only [Act.put, List.setIfInBounds_toArray, List.set_cons_zero, List.set_cons_succ, i64_w, i32_w]
    rfl
   refine one_ (i := 8) (N := some 20) (bitsL 11 511) rfl rfl (one_of HT_.out (by kernel_rfl)) (by decide) (fun K hK => ?_)
   refine goes_ Tryz.func9 (by kernel_rfl) rfl #[] (by rfl) rfl rfl am ?_
   with_reducible refine (bulletinlaw16_works.calls (hG := by first | exact hG | exact Glob.below hG (by first | exact HB.out | (repeat (first | (with_reducible first | exact HB.out | apply below_alloc | apply pw_below_drewN | apply below_drew1 | refine below_set ?_ GE379.out | refine below_set ?_ GE381.out) | exact HB.out))) | exact Glob.drawn hG (by repeat (first | exact Drawn0.refl _ | apply Drawn0.step))) k  t389 _ A11.out).mono ?_
   rintro e w23 ⟨rfl, hb⟩
   refine ⟨_, rfl, ?_⟩
   have n0_ := Aside0.mk (Kd.R_below (by (with_reducible repeat (first | apply Kd.R_alloc | apply Kd.R_drewN | apply Kd.R_drew)); exact HO384.out) hb)
   have n1_ := Aside0.mk (Kd.R_below (by (with_reducible repeat (first | apply Kd.R_alloc | apply Kd.R_drewN | apply Kd.R_drew)); exact HO387.out) hb)
   have n2_ := Aside0.mk (blk_below (g := gb379) (o := .cells #[.slice A0_0 l0_0.length c0_0, .string a0_1] 31 (0, 0)) bk hb)
   have n3_ := Aside0.mk (blk_below (g := gb381) (o := .cells #[.slice none 0 0, .string a0_1] 25 (0, 0)) bk hb)
   have n4_ := Aside0.mk (below_step bwS hb)
   clear HO384
   clear HO387
   clear BK379
   clear BK381
   clear HB
   have HO384 := n0_
   have HO387 := n1_
   have BK379 := n2_
   have BK381 := n3_
   have HB := n4_
   clear n0_ n1_ n2_ n3_ n4_
   (try clear hb)
   (try clear hb2)
   (try clear hk)
   (try clear hi)
   refine hK.out _ _ ⟨(blk_cell BK381.out 0).trans rfl, (blk_cell BK381.out 1).trans rfl, (blk_cell BK379.out 0).trans rfl, (blk_cell BK379.out 1).trans rfl⟩ (fun hHeld => ?_)
   clear hK K
   refine norm_ (a' := ?_) ?_ ?_
   rotate_left
   ·show Act.put _ (some 20) _ = _
    simp only [Act.put, List.setIfInBounds_toArray, List.set_cons_zero, List.set_cons_succ, i64_w, i32_w]
    rfl
   refine pure_ (i := 9) (N := some 21) (v := ?_) (a' := ?_) (bitsL 11 1023) rfl rfl (any_of HT_.out (by kernel_rfl)) (fun _ _ _ h => h) (Or.inl ⟨by rfl, ?_⟩) ?_ ?_
   rotate_left
   ·intro w'
    go_simp
    with_reducible rfl
   rotate_left
   ·simp only [Act.put, List.setIfInBounds_toArray, List.set_cons_zero, List.set_cons_succ, i64_w, i32_w]
    rfl
   refine pure_ (i := 10) (N := some 2) (v := ?_) (a' := ?_) (bitsL 11 2047) rfl rfl (any_of HT_.out (by kernel_rfl)) (fun _ _ _ h => h) (Or.inl ⟨by rfl, ?_⟩) ?_ ?_
   rotate_left
   ·intro w'
    go_simp
    with_reducible rfl
   rotate_left
   ·simp only [Act.put, List.setIfInBounds_toArray, List.set_cons_zero, List.set_cons_succ, i64_w, i32_w]
    rfl
   refine done_ (done_of HT_.out (by kernel_rfl)) ?_
   try go_wp2
   go_ret
   exact ⟨by first | rfl | (simp [errW_none, errW_some] <;> rfl) | (simp [*, errW_none, errW_some] <;> rfl), bwS⟩
  ·replace c10 := Bool.eq_false_iff.mpr c10
   subst c10
   have H1 : (some false) = some r := by rw [if_neg (show ¬ (false = true) by decide)] at H; exact H
   clear H
   have H := H1
   clear H1
   obtain rfl := Option.some.inj H
   go_enter Tryz.func4, Tryz.ntmps4
   try go_wp2_with (first | ((with_reducible refine gate_dst (N := 1) rfl ?_); refine box_event ?hg (N := 1) ?hd (cs := #[.slice A0_0 l0_0.length c0_0, .string a0_1]) (t := 31) ?hr ?_; (case hd => rfl); (case hg => rfl); (case hr => first | (go_simp; done) | (go_simp; rfl)); intro gb379 hg w24 hbox hb; have n0_ := Aside0.mk (below_step bw hb); have n1_ := Aside0.mk (hbox); have n2_ := Aside0.mk ((by rw [hg]; exact (below_size bw) : w.heap.size ≤ gb379)); have n3_ := Aside0.mk ((by rw [hg]; exact (below_size bw) : w.heap.size ≤ gb379)); clear HB; have HB := n0_; have BK379 := n1_; have GW379 := n2_; have GE379 := n3_; clear n0_ n1_ n2_ n3_; clear hb hbox hg; have hcz25_0 : w24.cell? ⟨gb379, 0, none⟩ = some (.slice A0_0 l0_0.length c0_0) := (blk_cell BK379.out 0).trans rfl; have hcz25_1 : w24.cell? ⟨gb379, 1, none⟩ = some (.string a0_1) := (blk_cell BK379.out 1).trans rfl; have hfz25_0 := blk_frozen BK379.out 0; have hfz25_1 := blk_frozen BK379.out 1) | ((with_reducible refine gate_dst (N := 3) rfl ?_); refine box_event ?hg (N := 3) ?hd (cs := #[.slice none 0 0, .string (⟨#[]⟩ : ByteArray)]) (t := 25) ?hr ?_; (case hd => rfl); (case hg => rfl); (case hr => first | (go_simp; done) | (go_simp; rfl)); intro gb381 hg w26 hbox hb; have n0_ := Aside0.mk (blk_below (g := gb379) (o := .cells #[.slice A0_0 l0_0.length c0_0, .string a0_1] 31 (0, 0)) bk hb); have n1_ := Aside0.mk (below_step bwS hb); have n2_ := Aside0.mk (hbox); have n3_ := Aside0.mk ((by rw [hg]; exact (below_size bwS) : w.heap.size ≤ gb381)); have n4_ := Aside0.mk ((by rw [hg]; exact (below_size bwS) : w.heap.size ≤ gb381)); have n5_ := Aside0.mk ((by rw [hg]; exact Nat.ne_of_lt (blk_lt (g := gb379) (o := .cells #[.slice A0_0 l0_0.length c0_0, .string a0_1] 31 (0, 0)) bk) : gb379 ≠ gb381)); have n6_ := Aside0.mk ((by rw [hg]; exact Nat.ne_of_gt (blk_lt (g := gb379) (o := .cells #[.slice A0_0 l0_0.length c0_0, .string a0_1] 31 (0, 0)) bk) : gb381 ≠ gb379)); clear BK379; clear HB; have BK379 := n0_; have HB := n1_; have BK381 := n2_; have GW381 := n3_; have GE381 := n4_; have NB379_381 := n5_; have NB381_379 := n6_; clear n0_ n1_ n2_ n3_ n4_ n5_ n6_; clear hb hbox hg; have hnb27 := NB381_379.out; have hnc27 := NB379_381.out; have hcz28_0 : w26.cell? ⟨gb381, 0, none⟩ = some (.slice none 0 0) := (blk_cell BK381.out 0).trans rfl; have hcz28_1 : w26.cell? ⟨gb381, 1, none⟩ = some (.string (⟨#[]⟩ : ByteArray)) := (blk_cell BK381.out 1).trans rfl; have hfz28_0 := blk_frozen BK381.out 0; have hfz28_1 := blk_frozen BK381.out 1))
   have n0_ : Aside0 (((w26.setCell ⟨gb381, 0, none⟩ (.slice none 0 0)).setCell ⟨gb381, 1, none⟩ (.string a0_1)).heap[gb379]? = some (.cells #[.slice A0_0 l0_0.length c0_0, .string a0_1] 31 (0, 0))) := ⟨by (with_reducible repeat (first | refine blk_drewN ?_ _ | refine blk_drew ?_ | refine blk_alloc ?_ _)); refine blk_far ?_ NB379_381.out _; (with_reducible repeat (first | refine blk_drewN ?_ _ | refine blk_drew ?_ | refine blk_alloc ?_ _)); refine blk_far ?_ NB379_381.out _; (with_reducible repeat (first | refine blk_drewN ?_ _ | refine blk_drew ?_ | refine blk_alloc ?_ _)); exact BK379.out⟩
   have n1_ : Aside0 (((w26.setCell ⟨gb381, 0, none⟩ (.slice none 0 0)).setCell ⟨gb381, 1, none⟩ (.string a0_1)).heap[gb381]? = some (.cells #[.slice none 0 0, .string a0_1] 25 (0, 0))) := ⟨by (with_reducible repeat (first | refine blk_drewN ?_ _ | refine blk_drew ?_ | refine blk_alloc ?_ _)); refine blk_put (cs := #[.slice none 0 0, .string (⟨#[]⟩ : ByteArray)]) ?_ 1 _ rfl; (with_reducible repeat (first | refine blk_drewN ?_ _ | refine blk_drew ?_ | refine blk_alloc ?_ _)); refine blk_put (cs := #[.slice none 0 0, .string (⟨#[]⟩ : ByteArray)]) ?_ 0 _ rfl; (with_reducible repeat (first | refine blk_drewN ?_ _ | refine blk_drew ?_ | refine blk_alloc ?_ _)); exact BK381.out⟩
   have n2_ : Aside0 (Below w.heap.size w ((w26.setCell ⟨gb381, 0, none⟩ (.slice none 0 0)).setCell ⟨gb381, 1, none⟩ (.string a0_1))) := ⟨bwS⟩
   (try clear BK379)
   (try clear BK381)
   (try clear HB)
   generalize ((w26.setCell ⟨gb381, 0, none⟩ (.slice none 0 0)).setCell ⟨gb381, 1, none⟩ (.string a0_1)) = w29 at n0_ n1_ n2_ ⊢
   have BK379 := n0_
   have BK381 := n1_
   have HB := n2_
   clear n0_ n1_ n2_
   have n0_ := Aside0.mk (blk_drew BK379.out)
   have n1_ := Aside0.mk (blk_drew BK381.out)
   have n2_ := Aside0.mk (below_drew1 HB.out)
   clear BK379
   clear BK381
   clear HB
   have BK379 := n0_
   have BK381 := n1_
   have HB := n2_
   clear n0_ n1_ n2_
   refine start_ (n := 11) (S := fun w' => w'.cell? ⟨gb381, 0, none⟩ = some (.slice none 0 0) ∧ w'.cell? ⟨gb381, 1, none⟩ = some (.string a0_1) ∧ w'.cell? ⟨gb379, 0, none⟩ = some (.slice A0_0 l0_0.length c0_0) ∧ w'.cell? ⟨gb379, 1, none⟩ = some (.string a0_1)) (ds := []) #[false, false, false, false, false, false, false, false, false, false, false] (by kernel_rfl) rfl rfl ⟨(blk_cell BK381.out 0).trans rfl, (blk_cell BK381.out 1).trans rfl, (blk_cell BK379.out 0).trans rfl, (blk_cell BK379.out 1).trans rfl⟩ (fun hHeld => ?_); refine with_tabW bulletinlaw16_MsgLines.tab4 bulletinlaw16_MsgLines.bits4 (fun HT_ HW_ => ?_)
   generalize w29.drew = w30 at BK379 BK381 HB hHeld ⊢
   refine pure_ (i := 2) (N := some 14) (v := ?_) (a' := ?_) (bitsL 11 4) rfl rfl (any_of HT_.out (by kernel_rfl)) (fun _ _ _ h => h) (Or.inl ⟨by rfl, ?_⟩) ?_ ?_
   rotate_left
   ·intro w'
    go_simp
    with_reducible rfl
   rotate_left
   ·simp only [Act.put, List.setIfInBounds_toArray, List.set_cons_zero, List.set_cons_succ, i64_w, i32_w]
    rfl
   refine take_ (i := 0) (N := some 12) (v := ?_) (a' := ?_) (bitsL 11 5) rfl rfl (take_ofW HT_.out HW_.out (by kernel_rfl)) (fun _ _ _ h => h) (Or.inl ⟨by rfl, ?_⟩) hHeld ?_ ?_
   rotate_left
   ·rintro w' ⟨s0, s1, s2, s3⟩
    go_simp
    with_reducible rfl
   rotate_left
   ·simp only [Act.put, List.setIfInBounds_toArray, List.set_cons_zero, List.set_cons_succ, i64_w, i32_w]
    rfl
   refine take_ (i := 3) (N := some 15) (v := ?_) (a' := ?_) (bitsL 11 13) rfl rfl (take_ofW HT_.out HW_.out (by kernel_rfl)) (fun _ _ _ h => h) (Or.inl ⟨by rfl, ?_⟩) hHeld ?_ ?_
   rotate_left
   ·rintro w' ⟨s0, s1, s2, s3⟩
    go_simp
    with_reducible rfl
   rotate_left
   ·simp only [Act.put, List.setIfInBounds_toArray, List.set_cons_zero, List.set_cons_succ, i64_w, i32_w]
    rfl
   refine pure_ (i := 4) (N := some 16) (v := ?_) (a' := ?_) (bitsL 11 29) rfl rfl (any_of HT_.out (by kernel_rfl)) (fun _ _ _ h => h) (Or.inl ⟨by rfl, ?_⟩) ?_ ?_
   rotate_left
   ·intro w'
    go_simp
    with_reducible rfl
   rotate_left
   ·simp only [Act.put, List.setIfInBounds_toArray, List.set_cons_zero, List.set_cons_succ, i64_w, i32_w]
    rfl
   refine one_ (i := 1) (N := some 13) (bitsL 11 31) rfl rfl (one_of HT_.out (by kernel_rfl)) (by decide) (fun K hK => ?_)
   refine goes_ Tryz.func16 (by kernel_rfl) rfl #[.agg #[.slice none 0 0, .string a0_1]] (by rfl) rfl rfl am ?_
   refine (msg_Message_Lines.calls (hG := by first | exact hG | exact Glob.below hG (by first | exact HB.out | (repeat (first | (with_reducible first | exact HB.out | apply below_alloc | apply pw_below_drewN | apply below_drew1 | refine below_set ?_ GE379.out | refine below_set ?_ GE381.out) | exact HB.out))) | exact Glob.drawn hG (by repeat (first | exact Drawn0.refl _ | apply Drawn0.step))) k _ _ ([] : List (S46)) a0_1 t382 _ ?side1 ?side2 A7.out).mono ?_
   (case side1 => exact Kd.C_nil _ _)
   (case side2 => exact Nat.le_refl _)
   rintro e w31 ⟨v383, rfl, ho0, hb⟩
   refine ⟨_, rfl, ?_⟩
   have n0_ := Aside0.mk (Kd.R_lower ho0 (below_size bwS))
   have n1_ := Aside0.mk (blk_below (g := gb379) (o := .cells #[.slice A0_0 l0_0.length c0_0, .string a0_1] 31 (0, 0)) bk hb)
   have n2_ := Aside0.mk (blk_below (g := gb381) (o := .cells #[.slice none 0 0, .string a0_1] 25 (0, 0)) bk hb)
   have n3_ := Aside0.mk (below_step bwS hb)
   clear BK379
   clear BK381
   clear HB
   have HO384 := n0_
   have BK379 := n1_
   have BK381 := n2_
   have HB := n3_
   clear n0_ n1_ n2_ n3_
   (try clear hb)
   (try clear hb2)
   (try clear hk)
   (try clear hi)
   (try clear ho0)
   refine hK.out _ _ ⟨(blk_cell BK381.out 0).trans rfl, (blk_cell BK381.out 1).trans rfl, (blk_cell BK379.out 0).trans rfl, (blk_cell BK379.out 1).trans rfl⟩ (fun hHeld => ?_)
   clear hK K
   refine norm_ (a' := ?_) ?_ ?_
   rotate_left
   ·show Act.put _ (some 13) _ = _
    simp only [Act.put, List.setIfInBounds_toArray, List.set_cons_zero, List.set_cons_succ, i64_w, i32_w]
    rfl
   refine one_ (i := 5) (N := some 17) (bitsL 11 63) rfl rfl (one_of HT_.out (by kernel_rfl)) (by decide) (fun K hK => ?_)
   refine goes_ Tryz.func17 (by kernel_rfl) rfl #[.agg #[.slice none 0 0, .string a0_1]] (by rfl) rfl rfl am ?_
   refine (bulletinref16_Lines.calls k _ _ ([] : List (S67)) a0_1 t385 _ ?side1 ?side2 A8.out).mono ?_
   (case side1 => exact Kd.C_nil _ _)
   (case side2 => exact Nat.le_refl _)
   rintro e w32 ⟨v386, rfl, ho0, hb⟩
   refine ⟨_, rfl, ?_⟩
   have n0_ := Aside0.mk (Kd.R_elder' (by (with_reducible repeat (first | apply Kd.R_alloc | apply Kd.R_drewN | apply Kd.R_drew)); exact HO384.out) (Kd.R_base ho0) hb)
   have n1_ := Aside0.mk (Kd.R_lower (Kd.R_new' ho0 (Kd.R_lt (by (with_reducible repeat (first | apply Kd.R_alloc | apply Kd.R_drewN | apply Kd.R_drew)); exact HO384.out))) (below_size bwS))
   have n2_ := Aside0.mk (blk_below (g := gb379) (o := .cells #[.slice A0_0 l0_0.length c0_0, .string a0_1] 31 (0, 0)) bk hb)
   have n3_ := Aside0.mk (blk_below (g := gb381) (o := .cells #[.slice none 0 0, .string a0_1] 25 (0, 0)) bk hb)
   have n4_ := Aside0.mk (below_step bwS hb)
   clear HO384
   clear BK379
   clear BK381
   clear HB
   have HO384 := n0_
   have HO387 := n1_
   have BK379 := n2_
   have BK381 := n3_
   have HB := n4_
   clear n0_ n1_ n2_ n3_ n4_
   (try clear hb)
   (try clear hb2)
   (try clear hk)
   (try clear hi)
   (try clear ho0)
   obtain ⟨Ao33, co33, eo33⟩ := Kd.R_slice HO384.out
   (first | subst eo33 | (injection eo33 with f1_ f2_ f3_; have f4_ := f1_.symm; have f5_ := f3_.symm; clear f1_ f2_ f3_; subst f4_; subst f5_))
   obtain ⟨Ao34, co34, eo34⟩ := Kd.R_slice HO387.out
   (first | subst eo34 | (injection eo34 with f1_ f2_ f3_; have f4_ := f1_.symm; have f5_ := f3_.symm; clear f1_ f2_ f3_; subst f4_; subst f5_))
   refine hK.out _ _ ⟨(blk_cell BK381.out 0).trans rfl, (blk_cell BK381.out 1).trans rfl, (blk_cell BK379.out 0).trans rfl, (blk_cell BK379.out 1).trans rfl⟩ (fun hHeld => ?_)
   clear hK K
   refine norm_ (a' := ?_) ?_ ?_
   rotate_left
   ·show Act.put _ (some 17) _ = _
    simp only [Act.put, List.setIfInBounds_toArray, List.set_cons_zero, List.set_cons_succ, i64_w, i32_w]
    rfl
   refine one_ (i := 6) (N := some 18) (bitsL 11 127) rfl rfl (one_of HT_.out (by kernel_rfl)) (by decide) (fun K hK => ?_)
   refine goes_ Tryz.func15 (by kernel_rfl) rfl #[.slice Ao33 t382.length co33, .slice Ao34 t385.length co34] (by rfl) rfl rfl am ?_
   with_reducible refine (bulletinbook_SameTexts.calls k _ _ t382 _ _ t385 false _ ?side1 ?side2 ?side3 ?side4 A9.out).mono ?_
   (case side1 => repeat (first | exact (Kd.R_reads' HO384.out).2.2 | (with_reducible refine Kd.C_alloc ?_ _) | (with_reducible refine Kd.C_drewN ?_ _) | (with_reducible refine Kd.C_drew ?_)))
   (case side2 => exact (Kd.R_reads' HO384.out).2.1)
   (case side3 => repeat (first | exact (Kd.R_reads' HO387.out).2.2 | (with_reducible refine Kd.C_alloc ?_ _) | (with_reducible refine Kd.C_drewN ?_ _) | (with_reducible refine Kd.C_drew ?_)))
   (case side4 => exact (Kd.R_reads' HO387.out).2.1)
   rintro e w' ⟨rfl, ⟨nd, rfl⟩⟩
   refine ⟨_, rfl, ?_⟩
   refine hK.out _ _ ⟨(blk_cell BK381.out 0).trans rfl, (blk_cell BK381.out 1).trans rfl, (blk_cell BK379.out 0).trans rfl, (blk_cell BK379.out 1).trans rfl⟩ (fun hHeld => ?_)
   clear hK K
   refine norm_ (a' := ?_) ?_ ?_
   rotate_left
   ·show Act.put _ (some 18) _ = _
    simp only [Act.put, List.setIfInBounds_toArray, List.set_cons_zero, List.set_cons_succ, i64_w, i32_w]
    rfl
   refine pure_ (i := 7) (N := some 19) (v := ?_) (a' := ?_) (bitsL 11 255) rfl rfl (any_of HT_.out (by kernel_rfl)) (fun _ _ _ h => h) (Or.inl ⟨by rfl, ?_⟩) ?_ ?_
   rotate_left
   ·intro w'
    go_simp
    with_reducible rfl
   rotate_left
   ·simp only [Act.put, List.setIfInBounds_toArray, List.set_cons_zero, List.set_cons_succ, i64_w, i32_w]
    rfl
   refine pure_ (i := 8) (N := some 20) (v := undef) (a' := ?_) (bitsL 11 511) rfl rfl (any_of HT_.out (by kernel_rfl)) (fun _ _ _ h => h) (Or.inr ⟨by rfl, rfl⟩) ?_ ?_
   rotate_left
   ·simp only [Act.put, List.setIfInBounds_toArray, List.set_cons_zero, List.set_cons_succ, i64_w, i32_w]
    rfl
   refine pure_ (i := 9) (N := some 21) (v := ?_) (a' := ?_) (bitsL 11 1023) rfl rfl (any_of HT_.out (by kernel_rfl)) (fun _ _ _ h => h) (Or.inl ⟨by rfl, ?_⟩) ?_ ?_
   rotate_left
   ·intro w'
    go_simp
    with_reducible rfl
   rotate_left
   ·simp only [Act.put, List.setIfInBounds_toArray, List.set_cons_zero, List.set_cons_succ, i64_w, i32_w]
    rfl
   refine pure_ (i := 10) (N := some 2) (v := ?_) (a' := ?_) (bitsL 11 2047) rfl rfl (any_of HT_.out (by kernel_rfl)) (fun _ _ _ h => h) (Or.inl ⟨by rfl, ?_⟩) ?_ ?_
   rotate_left
   ·intro w'
    go_simp
    with_reducible rfl
   rotate_left
   ·simp only [Act.put, List.setIfInBounds_toArray, List.set_cons_zero, List.set_cons_succ, i64_w, i32_w]
    rfl
   refine done_ (done_of HT_.out (by kernel_rfl)) ?_
   try go_wp2
   go_ret
   exact ⟨by first | rfl | (simp [errW_none, errW_some] <;> rfl) | (simp [*, errW_none, errW_some] <;> rfl), bwS⟩

end Go.Proofs.YtbjbpgmjijeppaaGreatDoor.Fn
set_option linter.unusedVariables false
set_option linter.unusedSimpArgs false
namespace Go.Proofs.YtbjbpgmjijeppaaGreatDoor.Pl
open Go.RowKit Go.Proofs.YtbjbpgmjijeppaaGreatDoorW.PrintWords Go.Proofs.YtbjbpgmjijeppaaGreatDoor.Fn

/-! head.Parse as a machine over lists of bytes. -/
abbrev Fld := Bytes × Bytes
def nameB (c : UInt8) : Bool := !decide (c.toNat < 33) && (!decide (126 < c.toNat) && !decide (c.toNat = 58))
def named (s : Bytes) : Bool := s.all nameB && (!decide (s = []) && decide (s.length ≤ 76))
def crlf : Bytes → Option Nat
  | [] => none
  | c :: r => if c = 13 ∧ r.head? = some 10 then some 0 else (crlf r).map (· + 1)
def upto (c : UInt8) : Bytes → Nat
  | [] => 0
  | d :: r => if d = c then 0 else upto c r + 1
def bad (e : Int) : List Fld × Bytes × Int := ([], [], e)
theorem crlf_room : ∀ {s : Bytes} {i : Nat}, crlf s = some i → i + 2 ≤ s.length
  | [], i, h => by simp [crlf] at h
  | c :: r, i, h => by
    unfold crlf at h
    split at h
    · rename_i hc
      injection h with h
      subst h
      cases r with
      | nil => simp at hc
      | cons d r => simp
    · rw [Option.map_eq_some_iff] at h
      obtain ⟨j, hj, rfl⟩ := h
      have := crlf_room hj
      simp only [List.length_cons]; omega
theorem index_crlf : ∀ (s : Bytes), Lib.index s [13, 10] = (match crlf s with | some i => (i : Int) | none => -1)
  | [] => rfl
  | c :: r => by
    have ih := index_crlf r
    rw [Lib.index, crlf]
    by_cases h : c = 13 ∧ r.head? = some 10
    · rw [if_pos h]
      obtain ⟨rfl, h2⟩ := h
      cases r with
      | nil => simp at h2
      | cons d r =>
        simp at h2
        subst h2
        rw [if_pos (by simp [List.isPrefixOf])]
        rfl
    · rw [if_neg h]
      have hp : ([13, 10] : Bytes).isPrefixOf (c :: r) = false := by
        cases r with
        | nil => simp [List.isPrefixOf]
        | cons d r =>
          simp only [List.head?_cons, Option.some.injEq] at h
          simp [List.isPrefixOf]
          intro h1 h2
          exact h ⟨h1.symm, h2.symm⟩
      rw [hp, if_neg (by decide), ih]
      cases crlf r with
      | none => rfl
      | some i =>
        simp only [Option.map_some]
        rw [if_neg (by first | (simp; done) | (simp; omega))]
        show (i : Int) + 1 = ((i + 1 : Nat) : Int)
        omega
theorem cut_crlf (s : ByteArray) (h : s.size ≤ 1000000000) : strings_Cut.f s (⟨#[13, 10]⟩ : ByteArray) = some (match crlf (bs s) with
    | some i => (str ((bs s).take i), str ((bs s).drop (i + 2)), true)
    | none => (s, str [], false)) := by
  unfold strings_Cut.f
  rw [if_pos (by omega)]
  congr 1
  have e : Lib.cut s.data.toList (⟨#[13, 10]⟩ : ByteArray).data.toList = Lib.cut (bs s) [13, 10] := rfl
  rw [e]
  unfold Lib.cut
  rw [index_crlf]
  cases crlf (bs s) with
  | none => simp [str_bs]
  | some i => simp
end Go.Proofs.YtbjbpgmjijeppaaGreatDoor.Pl
set_option linter.unusedVariables false
set_option linter.unusedSimpArgs false
namespace Go.Proofs.YtbjbpgmjijeppaaGreatDoor.Pl
open Go.RowKit Go.Proofs.YtbjbpgmjijeppaaGreatDoorW.PrintWords Go.Proofs.YtbjbpgmjijeppaaGreatDoor.Fn

/-! Layer 16: a body's lines -/
def linesM : Nat → Bytes → List Bytes
  | 0, _ => []
  | n + 1, s => if s = [] then [] else match crlf s with
    | some i => s.take i :: linesM n (s.drop (i + 2))
    | none => [s]
def linesB (s : Bytes) : List Bytes := linesM s.length s
theorem msgLines_l0 : ∀ (n : Nat) (s : Bytes) (acc : List Bytes) (k : Nat), s.length ≤ n → n + 1 < k → acc.length + n ≤ 1000000 →
    msg_Message_Lines.l0 k (acc.map str) (str s) = some ((acc ++ linesM n s).map str)
  | n, [], acc, k, hn, hk, ha => by
    obtain ⟨k, rfl⟩ : ∃ q, k = q + 1 := ⟨k - 1, by omega⟩
    have e : linesM n [] = [] := by cases n <;> rfl
    rw [msg_Message_Lines.l0, if_pos (by rw [toList_str]), e, List.append_nil]
  | 0, c :: s, acc, k, hn, hk, ha => by simp at hn
  | n + 1, c :: s, acc, k, hn, hk, ha => by
    obtain ⟨k, rfl⟩ : ∃ q, k = q + 1 := ⟨k - 1, by omega⟩
    have hl : (c :: s).length ≤ 1000000 := by omega
    rw [msg_Message_Lines.l0, if_neg (by rw [toList_str]; simp), cut_crlf _ (by rw [str_size]; omega), Option.bind_some, bs_str, show linesM (n + 1) (c :: s) = (match crlf (c :: s) with | some i => (c :: s).take i :: linesM n ((c :: s).drop (i + 2)) | none => [c :: s]) from by rw [linesM, if_neg (by simp)]]
    cases hc : crlf (c :: s) with
    | none =>
      simp only []
      rw [if_pos (by rw [List.length_map]; omega), show acc.map str ++ [str (c :: s)] = (acc ++ [c :: s]).map str by simp]
      have := msgLines_l0 n [] (acc ++ [c :: s]) k (Nat.zero_le _) (by omega) (by rw [List.length_append, List.length_singleton]; omega)
      have e : linesM n [] = [] := by cases n <;> rfl
      rw [e, List.append_nil] at this
      exact this
    | some i =>
      have hr := crlf_room hc
      simp only []
      rw [if_pos (by rw [List.length_map]; omega), show acc.map str ++ [str ((c :: s).take i)] = (acc ++ [(c :: s).take i]).map str by simp]
      rw [msgLines_l0 n ((c :: s).drop (i + 2)) (acc ++ [(c :: s).take i]) k (by rw [List.length_drop]; omega) (by omega) (by rw [List.length_append, List.length_singleton]; omega)]
      simp
theorem msgLines_is (fs : List S46) (s : ByteArray) (hs : s.size ≤ 1000000) (k : Nat) (hk : s.size + 1 < k) : msg_Message_Lines.f k fs s = some ((linesB (bs s)).map str) := by
  have := msgLines_l0 (bs s).length (bs s) [] k (Nat.le_refl _) (by rw [bs_length]; exact hk) (by rw [bs_length]; simpa using hs)
  rw [str_bs] at this
  unfold msg_Message_Lines.f
  exact this
/-! the lines, each with its end behind it -/
end Go.Proofs.YtbjbpgmjijeppaaGreatDoor.Pl
set_option linter.unusedVariables false
set_option linter.unusedSimpArgs false
namespace Go.Proofs.YtbjbpgmjijeppaaGreatDoor.Pl
open Go.RowKit Go.Proofs.YtbjbpgmjijeppaaGreatDoorW.PrintWords Go.Proofs.YtbjbpgmjijeppaaGreatDoor.Fn

/-! head.Parse computes the machine. -/
def fits (T : Nat) (l : List Fld) (n : Nat) : Prop := l.length + n ≤ T ∧ ∀ f ∈ l, f.1.length + f.2.length + n ≤ T
end Go.Proofs.YtbjbpgmjijeppaaGreatDoor.Pl
namespace Go.Proofs.YtbjbpgmjijeppaaGreatDoor.Fn
open Go.RowKit Go.Proofs.YtbjbpgmjijeppaaGreatDoorW.PrintWords Go.Proofs.YtbjbpgmjijeppaaGreatDoorW.PrintLast Go.Proofs.YtbjbpgmjijeppaaGreatDoorW.PrintMore
attribute [local go_sem] max2_int min2_int max_two min_two max_three min_three max_four min_four
set_option linter.unusedVariables false
set_option linter.unusedSimpArgs false

/-! ### bulletinref15_blank: function 63 -/
def bulletinref15_blank.f (a0 : Int) : Option (Bool) := if a0 = 32 then (some true) else (some (a0 == 9))
end Go.Proofs.YtbjbpgmjijeppaaGreatDoor.Fn
namespace Go.Proofs.YtbjbpgmjijeppaaGreatDoor.Fn
open Go.RowKit Go.Proofs.YtbjbpgmjijeppaaGreatDoorW.PrintWords Go.Proofs.YtbjbpgmjijeppaaGreatDoorW.PrintLast Go.Proofs.YtbjbpgmjijeppaaGreatDoorW.PrintMore
attribute [local go_sem] max2_int min2_int max_two min_two max_three min_three max_four min_four
set_option linter.unusedVariables false
set_option linter.unusedSimpArgs false

/-! ### bulletinref15_Trim: function 65 -/
mutual
def bulletinref15_Trim.j1 : Nat → ByteArray → Option (ByteArray)
 | 0, _ => none
 | k + 1, x0 => bulletinref15_Trim.l1 k x0
def bulletinref15_Trim.l1 : Nat → ByteArray → Option (ByteArray)
 | 0, _ => none
 | k + 1, x0 => if (x0.size : Int) > 0 then (if 0 ≤ (wrap64 ((x0.size : Int) - 1)) then (if (wrap64 ((x0.size : Int) - 1)) < (x0.size : Int) then ((bulletinref15_blank.f (bt x0 (wrap64 ((x0.size : Int) - 1)))).bind fun t306 => (if t306 = true then (if (wrap64 ((x0.size : Int) - 1)) ≤ (x0.size : Int) then (bulletinref15_Trim.l1 k (x0.extract 0 ((wrap64 ((x0.size : Int) - 1)) : Int).toNat)) else (none)) else (some x0))) else (none)) else (none)) else (some x0)
def bulletinref15_Trim.l0 : Nat → ByteArray → Option (ByteArray)
 | 0, _ => none
 | k + 1, x0 => if (x0.size : Int) > 0 then (if 0 < (x0.size : Int) then ((bulletinref15_blank.f (bt x0 0)).bind fun t305 => (if t305 = true then (if 1 ≤ (x0.size : Int) then (bulletinref15_Trim.l0 k (x0.extract 1 x0.size)) else (none)) else (bulletinref15_Trim.j1 k x0))) else (none)) else (bulletinref15_Trim.j1 k x0)
end
def bulletinref15_Trim.f (k : Nat) (a0 : ByteArray) : Option (ByteArray) := bulletinref15_Trim.l0 k a0
end Go.Proofs.YtbjbpgmjijeppaaGreatDoor.Fn
namespace Go.Proofs.YtbjbpgmjijeppaaGreatDoor.Fn
open Go.RowKit Go.Proofs.YtbjbpgmjijeppaaGreatDoorW.PrintWords Go.Proofs.YtbjbpgmjijeppaaGreatDoorW.PrintLast Go.Proofs.YtbjbpgmjijeppaaGreatDoorW.PrintMore
attribute [local go_sem] max2_int min2_int max_two min_two max_three min_three max_four min_four
set_option linter.unusedVariables false
set_option linter.unusedSimpArgs false

/-! ### bulletinref15_line: function 61 -/
def bulletinref15_line.l0 : Nat → ByteArray → Int → Option (Int)
 | 0, _, _ => none
 | k + 1, x0, x3 => if (wrap64 (x3 + 1)) < (x0.size : Int) then (if 0 ≤ x3 then (if x3 < (x0.size : Int) then (if (bt x0 x3) = 13 then (if 0 ≤ (wrap64 (x3 + 1)) then (if (bt x0 (wrap64 (x3 + 1))) = 10 then (some x3) else (bulletinref15_line.l0 k x0 (wrap64 (x3 + 1)))) else (none)) else (bulletinref15_line.l0 k x0 (wrap64 (x3 + 1)))) else (none)) else (none)) else (some (-1))
def bulletinref15_line.f (k : Nat) (a0 : ByteArray) : Option (Int) := bulletinref15_line.l0 k a0 0
end Go.Proofs.YtbjbpgmjijeppaaGreatDoor.Fn
namespace Go.Proofs.YtbjbpgmjijeppaaGreatDoor.Fn
open Go.RowKit Go.Proofs.YtbjbpgmjijeppaaGreatDoorW.PrintWords Go.Proofs.YtbjbpgmjijeppaaGreatDoorW.PrintLast Go.Proofs.YtbjbpgmjijeppaaGreatDoorW.PrintMore
attribute [local go_sem] max2_int min2_int max_two min_two max_three min_three max_four min_four
set_option linter.unusedVariables false
set_option linter.unusedSimpArgs false

/-! ### bulletinref15_named: function 64 -/
def bulletinref15_named.l0 : Nat → ByteArray → Int → Option (Bool)
 | 0, _, _ => none
 | k + 1, x0, x3 => if x3 < (x0.size : Int) then (if 0 ≤ x3 then (if (bt x0 x3) < 33 then (some false) else (if (bt x0 x3) > 126 then (some false) else (if (bt x0 x3) = 58 then (some false) else (bulletinref15_named.l0 k x0 (wrap64 (x3 + 1)))))) else (none)) else (if (x0.size : Int) ≥ 1 then (some (decide ((x0.size : Int) ≤ 76))) else (some false))
def bulletinref15_named.f (k : Nat) (a0 : ByteArray) : Option (Bool) := bulletinref15_named.l0 k a0 0
end Go.Proofs.YtbjbpgmjijeppaaGreatDoor.Fn
namespace Go.Proofs.YtbjbpgmjijeppaaGreatDoor.Fn
open Go.RowKit Go.Proofs.YtbjbpgmjijeppaaGreatDoorW.PrintWords Go.Proofs.YtbjbpgmjijeppaaGreatDoorW.PrintLast Go.Proofs.YtbjbpgmjijeppaaGreatDoorW.PrintMore
attribute [local go_sem] max2_int min2_int max_two min_two max_three min_three max_four min_four
set_option linter.unusedVariables false
set_option linter.unusedSimpArgs false

/-! ### bulletinref15_textual: function 62 -/
def bulletinref15_textual.l0 : Nat → ByteArray → Int → Option (Bool)
 | 0, _, _ => none
 | k + 1, x0, x3 => if x3 < (x0.size : Int) then (if 0 ≤ x3 then (if (bt x0 x3) = 9 then (bulletinref15_textual.l0 k x0 (wrap64 (x3 + 1))) else (if (bt x0 x3) < 32 then (some false) else (if (bt x0 x3) = 127 then (some false) else (bulletinref15_textual.l0 k x0 (wrap64 (x3 + 1)))))) else (none)) else (some true)
def bulletinref15_textual.f (k : Nat) (a0 : ByteArray) : Option (Bool) := bulletinref15_textual.l0 k a0 0
end Go.Proofs.YtbjbpgmjijeppaaGreatDoor.Fn
namespace Go.Proofs.YtbjbpgmjijeppaaGreatDoor.Fn
open Go.RowKit Go.Proofs.YtbjbpgmjijeppaaGreatDoorW.PrintWords Go.Proofs.YtbjbpgmjijeppaaGreatDoorW.PrintLast Go.Proofs.YtbjbpgmjijeppaaGreatDoorW.PrintMore
attribute [local go_sem] max2_int min2_int max_two min_two max_three min_three max_four min_four
set_option linter.unusedVariables false
set_option linter.unusedSimpArgs false

/-! ### bulletinref15_Parse: function 37 -/
mutual
def bulletinref15_Parse.l0 : Nat → ByteArray → List (S67) → ByteArray → Int → Option ((List (S67)) × ByteArray × Int)
 | 0, _, _, _, _ => none
 | k + 1, x0, x5, x6, x7 => if x7 < (x0.size : Int) then (if 0 ≤ x7 then (if x7 ≤ (x0.size : Int) then ((bulletinref15_line.f k (x0.extract (x7 : Int).toNat x0.size)).bind fun t307 => (if t307 < 0 then (some (([] : List (S67)), (⟨#[]⟩ : ByteArray), 9)) else (if x7 ≤ (wrap64 (x7 + t307)) then (if (wrap64 (x7 + t307)) ≤ (x0.size : Int) then (if t307 = 0 then (if 0 ≤ (wrap64 ((wrap64 (x7 + t307)) + 2)) then (if (wrap64 ((wrap64 (x7 + t307)) + 2)) ≤ (x0.size : Int) then (bulletinref15_Parse.l0 k x0 x5 (x0.extract ((wrap64 ((wrap64 (x7 + t307)) + 2)) : Int).toNat x0.size) (x0.size : Int)) else (none)) else (none)) else (if t307 > 998 then (some (([] : List (S67)), (⟨#[]⟩ : ByteArray), 2)) else ((bulletinref15_textual.f k (x0.extract (x7 : Int).toNat ((wrap64 (x7 + t307)) : Int).toNat)).bind fun t308 => (if t308 = true then (if 0 < ((x0.extract (x7 : Int).toNat ((wrap64 (x7 + t307)) : Int).toNat).size : Int) then ((bulletinref15_blank.f (bt (x0.extract (x7 : Int).toNat ((wrap64 (x7 + t307)) : Int).toNat) 0)).bind fun t309 => (if t309 = true then (if (x5.length : Int) = 0 then (some (([] : List (S67)), (⟨#[]⟩ : ByteArray), 150)) else (if 0 ≤ (wrap64 ((x5.length : Int) - 1)) then (if (wrap64 ((x5.length : Int) - 1)) < (x5.length : Int) then (if ((rd_T67 x5 (wrap64 ((x5.length : Int) - 1))).f1).size + (x0.extract (x7 : Int).toNat ((wrap64 (x7 + t307)) : Int).toNat).size ≤ 9223372036854775807 then (bulletinref15_Parse.l0 k x0 (x5.set ((wrap64 ((x5.length : Int) - 1)) : Int).toNat (⟨(rd_T67 x5 (wrap64 ((x5.length : Int) - 1))).f0, ((rd_T67 x5 (wrap64 ((x5.length : Int) - 1))).f1) ++ (x0.extract (x7 : Int).toNat ((wrap64 (x7 + t307)) : Int).toNat)⟩ : S67)) x6 (wrap64 ((wrap64 (x7 + t307)) + 2))) else (none)) else (none)) else (none))) else (bulletinref15_Parse.l1 k x0 x5 x6 (wrap64 ((wrap64 (x7 + t307)) + 2)) (x0.extract (x7 : Int).toNat ((wrap64 (x7 + t307)) : Int).toNat) 0))) else (none)) else (some (([] : List (S67)), (⟨#[]⟩ : ByteArray), 150)))))) else (none)) else (none)))) else (none)) else (none)) else (bulletinref15_Parse.l2 k x5 x6 0)
def bulletinref15_Parse.j2 : Nat → ByteArray → List (S67) → ByteArray → Int → ByteArray → Int → Option ((List (S67)) × ByteArray × Int)
 | 0, _, _, _, _, _, _ => none
 | k + 1, x0, x5, x6, x7, x9, x10 => if x10 = (x9.size : Int) then (bulletinref15_Parse.j3 k x0 x5 x6 x7 x9 x10 true) else (if 0 ≤ x10 then (if x10 ≤ (x9.size : Int) then ((bulletinref15_named.f k (x9.extract 0 (x10 : Int).toNat)).bind fun t312 => (bulletinref15_Parse.j3 k x0 x5 x6 x7 x9 x10 (!t312))) else (none)) else (none))
def bulletinref15_Parse.j3 : Nat → ByteArray → List (S67) → ByteArray → Int → ByteArray → Int → Bool → Option ((List (S67)) × ByteArray × Int)
 | 0, _, _, _, _, _, _, _ => none
 | k + 1, x0, x5, x6, x7, x9, x10, x87 => if x87 = true then (some (([] : List (S67)), (⟨#[]⟩ : ByteArray), 150)) else (if (x5.length : Int) = 100 then (some (([] : List (S67)), (⟨#[]⟩ : ByteArray), 8)) else (if 0 ≤ x10 then (if x10 ≤ (x9.size : Int) then (if 0 ≤ (wrap64 (x10 + 1)) then (if (wrap64 (x10 + 1)) ≤ (x9.size : Int) then (if x5.length < 4398046511104 then (bulletinref15_Parse.l0 k x0 (x5 ++ [(⟨x9.extract 0 (x10 : Int).toNat, x9.extract ((wrap64 (x10 + 1)) : Int).toNat x9.size⟩ : S67)]) x6 x7) else (none)) else (none)) else (none)) else (none)) else (none)))
def bulletinref15_Parse.l1 : Nat → ByteArray → List (S67) → ByteArray → Int → ByteArray → Int → Option ((List (S67)) × ByteArray × Int)
 | 0, _, _, _, _, _, _ => none
 | k + 1, x0, x5, x6, x7, x9, x10 => if x10 < (x9.size : Int) then (if 0 ≤ x10 then (if (bt x9 x10) = 58 then (bulletinref15_Parse.j2 k x0 x5 x6 x7 x9 x10) else (bulletinref15_Parse.l1 k x0 x5 x6 x7 x9 (wrap64 (x10 + 1)))) else (none)) else (bulletinref15_Parse.j2 k x0 x5 x6 x7 x9 x10)
def bulletinref15_Parse.l2 : Nat → List (S67) → ByteArray → Int → Option ((List (S67)) × ByteArray × Int)
 | 0, _, _, _ => none
 | k + 1, x5, x6, x11 => if x11 < (x5.length : Int) then (if 0 ≤ x11 then ((bulletinref15_Trim.f k ((rd_T67 x5 x11).f1)).bind fun t317 => (bulletinref15_Parse.l2 k (x5.set (x11 : Int).toNat (⟨(rd_T67 x5 x11).f0, t317⟩ : S67)) x6 (wrap64 (x11 + 1)))) else (none)) else (some (x5, x6, 0))
end
end Go.Proofs.YtbjbpgmjijeppaaGreatDoor.Fn
set_option linter.unusedVariables false
set_option linter.unusedSimpArgs false
namespace Go.Proofs.YtbjbpgmjijeppaaGreatDoor.Pl
open Go.RowKit Go.Proofs.YtbjbpgmjijeppaaGreatDoorW.PrintWords Go.Proofs.YtbjbpgmjijeppaaGreatDoor.Fn

/-! The document's Parse computes the machine. -/
theorem crlf_two (c d : UInt8) (r : Bytes) : crlf (c :: d :: r) = if c = 13 ∧ d = 10 then some 0 else (crlf (d :: r)).map (· + 1) := by
  show (if c = 13 ∧ (d :: r).head? = some 10 then some 0 else (crlf (d :: r)).map (· + 1)) = _
  simp only [List.head?_cons, Option.some.injEq]
/-! Trim -/
end Go.Proofs.YtbjbpgmjijeppaaGreatDoor.Pl
set_option linter.unusedVariables false
set_option linter.unusedSimpArgs false
namespace Go.Proofs.YtbjbpgmjijeppaaGreatDoor.Pl
open Go.RowKit Go.Proofs.YtbjbpgmjijeppaaGreatDoorW.PrintWords Go.Proofs.YtbjbpgmjijeppaaGreatDoor.Fn

/-! Layer 16: the document's lines -/
def rl : Bytes → Bytes → List Bytes
  | w, [] => if w = [] then [] else [w]
  | w, [c] => [w ++ [c]]
  | w, c :: d :: r => if c = 13 ∧ d = 10 then w :: rl [] r else rl (w ++ [c]) (d :: r)
theorem rl_crlf : ∀ (s w : Bytes), rl w s = match crlf s with
    | some i => (w ++ s.take i) :: rl [] (s.drop (i + 2))
    | none => if w ++ s = [] then [] else [w ++ s]
  | [], w => by rw [rl]; simp [crlf]
  | [c], w => by
    have : crlf [c] = none := by simp [crlf]
    rw [rl, this]
    simp
  | c :: d :: r, w => by
    rw [rl, crlf_two]
    by_cases h : c = 13 ∧ d = 10
    · rw [if_pos h, if_pos h]
      simp
    · rw [if_neg h, if_neg h, rl_crlf (d :: r) (w ++ [c])]
      cases crlf (d :: r) with
      | none => simp
      | some i => simp
theorem rl_lines : ∀ (n : Nat) (s : Bytes), s.length ≤ n → rl [] s = linesM n s
  | 0, s, h => by
    have h0 : s = [] := List.eq_nil_of_length_eq_zero (by omega)
    subst h0; rfl
  | n + 1, s, h => by
    rw [linesM, rl_crlf]
    by_cases h0 : s = []
    · subst h0; rfl
    rw [if_neg h0]
    cases hc : crlf s with
    | none => simp [h0]
    | some i =>
      have := crlf_room hc
      simp only [List.nil_append]
      rw [rl_lines n _ (by rw [List.length_drop]; omega)]
theorem refLines_l0 (s : ByteArray) (hs : s.size ≤ 1000000) : ∀ (n : Nat) (rest w : Bytes) (acc : List Bytes) (i k : Nat), rest.length ≤ n → (bs s).drop i = rest → i ≤ (bs s).length → rest.length + 1 ≤ k → acc.length ≤ i → w.length ≤ i →
    bulletinref16_Lines.l0 k (acc.map str) (str w) s (i : Int) = some ((acc ++ rl w rest).map str)
  | n, [], w, acc, i, k, hn, hd, hi, hk, ha, hw => by
    obtain ⟨k, rfl⟩ : ∃ j, k = j + 1 := ⟨k - 1, by omega⟩
    have := drop_nil hd
    rw [bs_length] at this hi
    rw [bulletinref16_Lines.l0, if_neg (by omega), toList_str, rl]
    by_cases h : w = []
    · rw [if_pos h, if_pos h, List.append_nil]
    · rw [if_neg h, if_neg h, if_pos (by rw [List.length_map]; omega)]
      simp
  | 0, c :: r, w, acc, i, k, hn, hd, hi, hk, ha, hw => by simp at hn
  | n + 1, c :: r, w, acc, i, k, hn, hd, hi, hk, ha, hw => by
    obtain ⟨k, rfl⟩ : ∃ j, k = j + 1 := ⟨k - 1, by omega⟩
    obtain ⟨h1, h2, h3, h4⟩ := drop_cons hd
    have h5 : i < s.size := by rw [bs_length] at h1; exact h1
    simp only [List.length_cons] at hk hn
    have e13 : ((c.toNat : Int) = 13) = (c = 13) := byte_eq c 13 (by decide)
    have more : (if (i : Int) ≤ ((i + 1 : Nat) : Int) then (if ((i + 1 : Nat) : Int) ≤ (s.size : Int) then (if (str w).size + (s.extract (i : Int).toNat (((i + 1 : Nat) : Int) : Int).toNat).size ≤ 9223372036854775807 then (bulletinref16_Lines.l0 k (acc.map str) ((str w) ++ (s.extract (i : Int).toNat (((i + 1 : Nat) : Int) : Int).toNat)) s ((i + 1 : Nat) : Int)) else (none)) else (none)) else (none)) = some ((acc ++ rl (w ++ [c]) r).map str) := by
      rw [if_pos (by omega), if_pos (by omega)]
      simp only [Int.toNat_natCast]
      rw [extract_one hd, str_app, if_pos (by rw [str_size, str_size]; simp; omega)]
      exact refLines_l0 s hs n r (w ++ [c]) acc (i + 1) k (by omega) h3 (by omega) (by omega) (by omega) (by simp; omega)
    rw [bulletinref16_Lines.l0, if_pos (by omega), if_pos (by omega), bt_drop hd, wrap_succ i (by omega)]
    match r, hd, h3, hn, hk, more with
    | [], hd, h3, hn, hk, more =>
      have hz := drop_nil h3
      rw [bs_length] at hz
      have el : rl w [c] = rl (w ++ [c]) [] := by rw [rl, rl, if_neg (by simp)]
      rw [el]
      by_cases hc : c = 13
      · rw [if_pos (by rw [e13]; exact hc), if_neg (by omega)]; exact more
      · rw [if_neg (by rw [e13]; exact hc)]; exact more
    | d :: r, hd, h3, hn, hk, more =>
      obtain ⟨g1, g2, g3, g4⟩ := drop_cons h3
      have g5 : i + 1 < s.size := by rw [bs_length] at g1; exact g1
      have e10 : ((d.toNat : Int) = 10) = (d = 10) := byte_eq d 10 (by decide)
      simp only [List.length_cons] at hk hn
      rw [rl]
      by_cases hc : c = 13
      · rw [if_pos (by rw [e13]; exact hc), if_pos (by omega), if_pos (by omega), bt_drop h3]
        by_cases hdd : d = 10
        · rw [if_pos (by rw [e10]; exact hdd), if_pos (by rw [List.length_map]; omega), if_pos (show c = 13 ∧ d = 10 from ⟨hc, hdd⟩), wrap_succ (i + 1) (by omega), show acc.map str ++ [str w] = (acc ++ [w]).map str by simp, show (⟨#[]⟩ : ByteArray) = str [] from rfl]
          rw [refLines_l0 s hs n r [] (acc ++ [w]) (i + 1 + 1) k (by omega) g3 (by omega) (by omega) (by simp; omega) (by simp)]
          simp
        · rw [if_neg (by rw [e10]; exact hdd), if_neg (fun q : c = 13 ∧ d = 10 => hdd q.2)]; exact more
      · rw [if_neg (by rw [e13]; exact hc), if_neg (fun q : c = 13 ∧ d = 10 => hc q.1)]; exact more
theorem refLines_is (q : List S67) (s : ByteArray) (hs : s.size ≤ 1000000) (k : Nat) (hk : s.size + 1 ≤ k) : bulletinref16_Lines.f k q s = some ((linesB (bs s)).map str) := by
  have := refLines_l0 s hs (bs s).length (bs s) [] [] 0 k (Nat.le_refl _) rfl (Nat.zero_le _) (by rw [bs_length]; exact hk) (by simp) (by simp)
  rw [rl_lines _ _ (Nat.le_refl _)] at this
  unfold bulletinref16_Lines.f
  exact this
end Go.Proofs.YtbjbpgmjijeppaaGreatDoor.Pl
set_option linter.unusedVariables false
set_option linter.unusedSimpArgs false
namespace Go.Proofs.YtbjbpgmjijeppaaGreatDoor.Pl
open Go.RowKit Go.Proofs.YtbjbpgmjijeppaaGreatDoorW.PrintWords Go.Proofs.YtbjbpgmjijeppaaGreatDoor.Fn

/-! Layer 14: so many addresses. -/
end Go.Proofs.YtbjbpgmjijeppaaGreatDoor.Pl
set_option linter.unusedVariables false
set_option linter.unusedSimpArgs false
namespace Go.Proofs.YtbjbpgmjijeppaaGreatDoor.Pl
open Go.RowKit Go.Proofs.YtbjbpgmjijeppaaGreatDoorW.PrintWords Go.Proofs.YtbjbpgmjijeppaaGreatDoor.Fn

/-! Layer 14: what the program's functions compute -/
end Go.Proofs.YtbjbpgmjijeppaaGreatDoor.Pl
set_option linter.unusedVariables false
namespace Go.Proofs.YtbjbpgmjijeppaaGreatDoor.Pl
open Go.RowKit Go.Proofs.YtbjbpgmjijeppaaGreatDoorW.PrintWords Go.Proofs.YtbjbpgmjijeppaaGreatDoor.Fn
set_option maxRecDepth 100000 in
theorem works16 (k : Nat) (hk : 200 ≤ k) : bulletinlaw16_works.f k = some true := mono_up (fun k => bulletinlaw16_works.mono k) (show bulletinlaw16_works.f 200 = some true by decide +kernel) k hk
end Go.Proofs.YtbjbpgmjijeppaaGreatDoor.Pl
namespace Go.Proofs.YtbjbpgmjijeppaaGreatDoor.Fn
open Go.RowKit Go.Proofs.YtbjbpgmjijeppaaGreatDoorW.PrintWords Go.Proofs.YtbjbpgmjijeppaaGreatDoorW.PrintLast Go.Proofs.YtbjbpgmjijeppaaGreatDoorW.PrintMore
attribute [local go_sem] max2_int min2_int max_two min_two max_three min_three max_four min_four
set_option linter.unusedVariables false
set_option linter.unusedSimpArgs false

/-! ### bulletinlaw15_Same: function 38 -/
end Go.Proofs.YtbjbpgmjijeppaaGreatDoor.Fn
namespace Go.Proofs.YtbjbpgmjijeppaaGreatDoor.Fn
open Go.RowKit Go.Proofs.YtbjbpgmjijeppaaGreatDoorW.PrintWords Go.Proofs.YtbjbpgmjijeppaaGreatDoorW.PrintLast Go.Proofs.YtbjbpgmjijeppaaGreatDoorW.PrintMore
attribute [local go_sem] max2_int min2_int max_two min_two max_three min_three max_four min_four
set_option linter.unusedVariables false
set_option linter.unusedSimpArgs false

/-! ### bulletinref15_Same: function 57 -/
def bulletinref15_Same.f (k : Nat) (a0 : ByteArray) (a1 : ByteArray) : Option (Bool) := (bulletinref06_Fold.f k a0).bind fun t449 => ((bulletinref06_Fold.f k a1).bind fun t450 => (some (t449.toList == t450.toList)))
end Go.Proofs.YtbjbpgmjijeppaaGreatDoor.Fn
namespace Go.Proofs.YtbjbpgmjijeppaaGreatDoor.Fn
open Go.RowKit Go.Proofs.YtbjbpgmjijeppaaGreatDoorW.PrintWords Go.Proofs.YtbjbpgmjijeppaaGreatDoorW.PrintLast Go.Proofs.YtbjbpgmjijeppaaGreatDoorW.PrintMore
attribute [local go_sem] max2_int min2_int max_two min_two max_three min_three max_four min_four
set_option linter.unusedVariables false
set_option linter.unusedSimpArgs false

/-! ### bulletinref15_All: function 29 -/
end Go.Proofs.YtbjbpgmjijeppaaGreatDoor.Fn
namespace Go.Proofs.YtbjbpgmjijeppaaGreatDoor.Fn
open Go.RowKit Go.Proofs.YtbjbpgmjijeppaaGreatDoorW.PrintWords Go.Proofs.YtbjbpgmjijeppaaGreatDoorW.PrintLast Go.Proofs.YtbjbpgmjijeppaaGreatDoorW.PrintMore
attribute [local go_sem] max2_int min2_int max_two min_two max_three min_three max_four min_four
set_option linter.unusedVariables false
set_option linter.unusedSimpArgs false

/-! ### bulletinref15_Get: function 53 -/
end Go.Proofs.YtbjbpgmjijeppaaGreatDoor.Fn
namespace Go.Proofs.YtbjbpgmjijeppaaGreatDoor.Fn
open Go.RowKit Go.Proofs.YtbjbpgmjijeppaaGreatDoorW.PrintWords Go.Proofs.YtbjbpgmjijeppaaGreatDoorW.PrintLast Go.Proofs.YtbjbpgmjijeppaaGreatDoorW.PrintMore
attribute [local go_sem] max2_int min2_int max_two min_two max_three min_three max_four min_four
set_option linter.unusedVariables false
set_option linter.unusedSimpArgs false

/-! ### bulletinref15_Put: function 35 -/
mutual
def bulletinref15_Put.l0 : Nat → List (S67) → List (S67) → Bool → Int → ByteArray → ByteArray → Option ((List (S67)))
 | 0, _, _, _, _, _, _ => none
 | k + 1, x0, x5, x6, x7, x621000, x621001 => if x7 < (x0.length : Int) then (if 0 ≤ x7 then ((bulletinref15_Same.f k ((rd_T67 x0 x7).f0) x621000).bind fun t625 => (if t625 = true then (bulletinref15_Put.j1 k x0 x5 x6 x7 t625 (!x6) x621000 x621001) else (bulletinref15_Put.j1 k x0 x5 x6 x7 t625 false x621000 x621001))) else (none)) else (if x6 = true then (some x5) else (if x5.length < 4398046511104 then (some (x5 ++ [(⟨x621000, x621001⟩ : S67)])) else (none)))
def bulletinref15_Put.j1 : Nat → List (S67) → List (S67) → Bool → Int → Bool → Bool → ByteArray → ByteArray → Option ((List (S67)))
 | 0, _, _, _, _, _, _, _, _ => none
 | k + 1, x0, x5, x6, x7, x8, x27, x621000, x621001 => if x27 = true then (if x5.length < 4398046511104 then ((some (x5 ++ [(⟨x621000, x621001⟩ : S67)] : List (S67))).bind fun y626 => (if x8 = true then (bulletinref15_Put.l0 k x0 y626 true (wrap64 (x7 + 1)) x621000 x621001) else (if 0 ≤ x7 then (if x7 < (x0.length : Int) then (if y626.length < 4398046511104 then (bulletinref15_Put.l0 k x0 (y626 ++ [(⟨(rd_T67 x0 x7).f0, (rd_T67 x0 x7).f1⟩ : S67)]) true (wrap64 (x7 + 1)) x621000 x621001) else (none)) else (none)) else (none)))) else (none)) else (if x8 = true then (bulletinref15_Put.l0 k x0 x5 x6 (wrap64 (x7 + 1)) x621000 x621001) else (if 0 ≤ x7 then (if x7 < (x0.length : Int) then (if x5.length < 4398046511104 then (bulletinref15_Put.l0 k x0 (x5 ++ [(⟨(rd_T67 x0 x7).f0, (rd_T67 x0 x7).f1⟩ : S67)]) x6 (wrap64 (x7 + 1)) x621000 x621001) else (none)) else (none)) else (none)))
end
end Go.Proofs.YtbjbpgmjijeppaaGreatDoor.Fn
namespace Go.Proofs.YtbjbpgmjijeppaaGreatDoor.Fn
open Go.RowKit Go.Proofs.YtbjbpgmjijeppaaGreatDoorW.PrintWords Go.Proofs.YtbjbpgmjijeppaaGreatDoorW.PrintLast Go.Proofs.YtbjbpgmjijeppaaGreatDoorW.PrintMore
attribute [local go_sem] max2_int min2_int max_two min_two max_three min_three max_four min_four
set_option linter.unusedVariables false
set_option linter.unusedSimpArgs false

/-! ### head_Get: function 49 -/
end Go.Proofs.YtbjbpgmjijeppaaGreatDoor.Fn
set_option linter.unusedVariables false
set_option linter.unusedSimpArgs false
namespace Go.Proofs.YtbjbpgmjijeppaaGreatDoor.Pl
open Go.Proofs.YtbjbpgmjijeppaaGreatDoorW.PrintWords
variable {α : Type}
/-! Layer 15: are two names the same? -/
end Go.Proofs.YtbjbpgmjijeppaaGreatDoor.Pl
namespace Go.Proofs.YtbjbpgmjijeppaaGreatDoor.Fn
open Go.RowKit Go.Proofs.YtbjbpgmjijeppaaGreatDoorW.PrintWords

end Go.Proofs.YtbjbpgmjijeppaaGreatDoor.Fn
set_option linter.unusedVariables false
set_option linter.unusedSimpArgs false
namespace Go.Proofs.YtbjbpgmjijeppaaGreatDoor.Fn
open Go.RowKit Go.Proofs.YtbjbpgmjijeppaaGreatDoorW.PrintWords

/-! A row of the call's own: cut off, and cleared behind. -/
section
variable {α : Type} {d : Kd α} {e base g n cap : Nat} {ok : Nat → Prop} {W : World} {xs : List α}
theorem reps_take {R : α → List Value → Prop} {size : Nat} {ps : List α} {cs : List Value} (h : Reps R size ps cs) (m : Nat) (hm : m ≤ ps.length) : Reps R size (ps.take m) (cs.take (m * size)) := by
  obtain ⟨h1, h2⟩ := h
  have hle : m * size ≤ ps.length * size := Nat.mul_le_mul_right _ hm
  refine ⟨by rw [List.length_take, List.length_take, h1]; rw [Nat.min_eq_left hle, Nat.min_eq_left hm], fun j p hp => ?_⟩
  have hj : j < m := by
    have := (List.getElem?_eq_some_iff.1 hp).1
    rw [List.length_take] at this
    omega
  rw [List.getElem?_take_of_lt hj] at hp
  have := h2 j p hp
  have hjm : j * size + size ≤ m * size := by rw [← Nat.succ_mul]; exact Nat.mul_le_mul_right _ hj
  rw [List.drop_take, List.take_take, Nat.min_eq_left (by omega)]
  exact this
end
structure Kept2 {α : Type} (p : α → Bool) (l : List α) (i j : Nat) (L : List α) : Prop where
  len : L.length = l.length
  lt : i < j
  le : j ≤ l.length
  low : L.take i = (l.take j).filter (fun x => !p x)
  high : L.drop j = l.drop j
theorem Kept2.at_ {α : Type} {p : α → Bool} {l L : List α} {i j : Nat} (h : Kept2 p l i j L) (hj : j < l.length) (hj2 : j < L.length) : L[j] = l[j] := by
  have := congrArg (·[0]?) h.high
  simp only [List.getElem?_drop, Nat.add_zero] at this
  rw [List.getElem?_eq_getElem hj, List.getElem?_eq_getElem hj2] at this
  exact Option.some.inj this
theorem drop_succ_of {α : Type} {l L : List α} {j : Nat} (h : L.drop j = l.drop j) : L.drop (j + 1) = l.drop (j + 1) := by
  rw [← List.drop_drop, ← List.drop_drop, h]
theorem Kept2.skip {α : Type} {p : α → Bool} {l L : List α} {i j : Nat} (h : Kept2 p l i j L) (hj : j < l.length) (hp : p l[j] = true) : Kept2 p l i (j + 1) L :=
  ⟨h.len, by have := h.lt; omega, hj, by rw [List.take_succ_eq_append_getElem hj, List.filter_append, h.low]; simp [hp], drop_succ_of h.high⟩
theorem Kept2.keep {α : Type} {p : α → Bool} {l L : List α} {i j : Nat} (h : Kept2 p l i j L) (hj : j < l.length) (hp : p l[j] = false) : Kept2 p l (i + 1) (j + 1) (L.set i l[j]) := by
  have hlt := h.lt
  have hlen := h.len
  have hi : i < (L.set i l[j]).length := by rw [List.length_set]; omega
  refine ⟨by rw [List.length_set]; exact hlen, by omega, hj, ?_, ?_⟩
  · rw [List.take_succ_eq_append_getElem hi, List.take_succ_eq_append_getElem hj, List.filter_append, ← h.low, List.getElem_set_self, List.take_set_of_le (Nat.le_refl _)]
    simp [hp]
  · rw [List.drop_set_of_lt (by omega)]
    exact drop_succ_of h.high
end Go.Proofs.YtbjbpgmjijeppaaGreatDoor.Fn
set_option linter.unusedVariables false
set_option linter.unusedSimpArgs false
namespace Go.Proofs.YtbjbpgmjijeppaaGreatDoor.Fn
open Go.RowKit Go.Proofs.YtbjbpgmjijeppaaGreatDoorW.PrintWords

end Go.Proofs.YtbjbpgmjijeppaaGreatDoor.Fn
set_option linter.unusedVariables false
set_option linter.unusedSimpArgs false
namespace Go.Proofs.YtbjbpgmjijeppaaGreatDoor.Fn
open Go.RowKit Go.Proofs.YtbjbpgmjijeppaaGreatDoorW.PrintWords

end Go.Proofs.YtbjbpgmjijeppaaGreatDoor.Fn
set_option linter.unusedVariables false
set_option linter.unusedSimpArgs false
namespace Go.Proofs.YtbjbpgmjijeppaaGreatDoor.Fn
open Go.RowKit Go.Proofs.YtbjbpgmjijeppaaGreatDoorW.PrintWords

/-! Layer 15: a row of fields grows by another -/
end Go.Proofs.YtbjbpgmjijeppaaGreatDoor.Fn
set_option linter.unusedVariables false
set_option linter.unusedSimpArgs false
namespace Go.Proofs.YtbjbpgmjijeppaaGreatDoor.Fn
open Go.RowKit Go.Proofs.YtbjbpgmjijeppaaGreatDoorW.PrintWords Go.Proofs.YtbjbpgmjijeppaaGreatDoorW.PrintLast Go.Proofs.YtbjbpgmjijeppaaGreatDoorW.PrintMore

end Go.Proofs.YtbjbpgmjijeppaaGreatDoor.Fn
namespace Go.Proofs.YtbjbpgmjijeppaaGreatDoor.Fn
open Go.RowKit Go.Proofs.YtbjbpgmjijeppaaGreatDoorW.PrintWords Go.Proofs.YtbjbpgmjijeppaaGreatDoorW.PrintLast Go.Proofs.YtbjbpgmjijeppaaGreatDoorW.PrintMore
attribute [local go_sem] max2_int min2_int max_two min_two max_three min_three max_four min_four
set_option linter.unusedVariables false
set_option linter.unusedSimpArgs false

/-! ### bulletinlaw15_Light: function 42 -/
mutual
def bulletinlaw15_Light.l0 : Nat → List (S67) → Int → Option (Bool)
 | 0, _, _ => none
 | k + 1, x0, x3 => if x3 < (x0.length : Int) then (bulletinlaw15_Light.j1 k x0 x3 (decide (x3 < 30))) else (bulletinlaw15_Light.j1 k x0 x3 false)
def bulletinlaw15_Light.j1 : Nat → List (S67) → Int → Bool → Option (Bool)
 | 0, _, _, _ => none
 | k + 1, x0, x3, x11 => if x11 = true then (if 0 ≤ x3 then (if x3 < (x0.length : Int) then (if (((rd_T67 x0 x3).f0).size : Int) > 200 then (some false) else (if (((rd_T67 x0 x3).f1).size : Int) > 3000 then (some false) else (bulletinlaw15_Light.l0 k x0 (wrap64 (x3 + 1))))) else (none)) else (none)) else (some (decide ((x0.length : Int) ≤ 30)))
end
end Go.Proofs.YtbjbpgmjijeppaaGreatDoor.Fn
namespace Go.Proofs.YtbjbpgmjijeppaaGreatDoor.Fn
open Go.RowKit Go.Proofs.YtbjbpgmjijeppaaGreatDoorW.PrintWords Go.Proofs.YtbjbpgmjijeppaaGreatDoorW.PrintLast Go.Proofs.YtbjbpgmjijeppaaGreatDoorW.PrintMore
attribute [local go_sem] max2_int min2_int max_two min_two max_three min_three max_four min_four
set_option linter.unusedVariables false
set_option linter.unusedSimpArgs false

/-! ### bulletinlaw15_To: function 43 -/
end Go.Proofs.YtbjbpgmjijeppaaGreatDoor.Fn
set_option linter.unusedVariables false
set_option linter.unusedSimpArgs false
namespace Go.Proofs.YtbjbpgmjijeppaaGreatDoor.Pl
open Go.RowKit Go.Proofs.YtbjbpgmjijeppaaGreatDoorW.PrintWords Go.Proofs.YtbjbpgmjijeppaaGreatDoor.Fn

/-! Layer 15: fields put and taken: the laws' words over lists -/
theorem wrapS (i : Nat) (h : i < 1000000000) : wrap64 ((i : Int) + 1) = ((i + 1 : Nat) : Int) := by
  rw [wrap_id (by omega) (by omega)]; omega
end Go.Proofs.YtbjbpgmjijeppaaGreatDoor.Pl
set_option linter.unusedVariables false
set_option linter.unusedSimpArgs false
namespace Go.Proofs.YtbjbpgmjijeppaaGreatDoor.Pl
open Go.RowKit Go.Proofs.YtbjbpgmjijeppaaGreatDoorW.PrintWords Go.Proofs.YtbjbpgmjijeppaaGreatDoor.Fn

theorem texts_rounds (L : List ByteArray) (hl : L.length ≤ 1000000) : ∀ (n i k : Nat), L.length = i + n → n < k → bulletinbook_SameTexts.l0 k L L true (i : Int) = some true := by
  intro n
  induction n with
  | zero =>
    intro i k h hk
    obtain ⟨k, rfl⟩ : ∃ q, k = q + 1 := ⟨k - 1, by omega⟩
    rw [bulletinbook_SameTexts.l0, if_pos rfl, if_neg (by omega)]
  | succ n ih =>
    intro i k h hk
    obtain ⟨k, rfl⟩ : ∃ q, k = q + 1 := ⟨k - 1, by omega⟩
    rw [bulletinbook_SameTexts.l0, if_pos rfl, if_pos (by omega), if_pos (by omega), if_pos (by omega), wrapS i (by omega), beq_self_eq_true]
    exact ih (i + 1) k (by omega) (by omega)
theorem texts_is (L : List ByteArray) (hl : L.length ≤ 1000000) (k : Nat) (hk : L.length < k) : bulletinbook_SameTexts.f k L L = some true := by
  unfold bulletinbook_SameTexts.f
  rw [beq_self_eq_true]
  exact texts_rounds L hl L.length 0 k (by omega) (by omega)
end Go.Proofs.YtbjbpgmjijeppaaGreatDoor.Pl
set_option linter.unusedVariables false
set_option linter.unusedSimpArgs false
namespace Go.Proofs.YtbjbpgmjijeppaaGreatDoor.Pl
open Go.RowKit Go.Proofs.YtbjbpgmjijeppaaGreatDoorW.PrintWords Go.Proofs.YtbjbpgmjijeppaaGreatDoor.Fn
theorem lines_few : ∀ (n : Nat) (s : Bytes), (linesM n s).length ≤ n
  | 0, s => by simp [linesM]
  | n + 1, s => by
    rw [linesM]
    split
    · simp
    · split
      · simp only [List.length_cons]; rename_i i _; have := lines_few n (s.drop (i + 2)); omega
      · simp
theorem MsgLines (q : List S67) (s : ByteArray) : ∃ k, bulletinlaw16_MsgLines.f k q s = some true := by
  refine ⟨100000, ?_⟩
  generalize hK : (100000 : Nat) = K
  unfold bulletinlaw16_MsgLines.f
  by_cases h1 : (s.size : Int) > 3000
  · rw [if_pos h1, works16 K (by omega), Option.bind_some]
  have hb := bs_length s
  have hct := lines_few (bs s).length (bs s)
  have hlen : ((linesB (bs s)).map str).length ≤ 3000 := by rw [List.length_map]; unfold linesB; omega
  rw [if_neg h1, msgLines_is _ s (by omega) K (by omega), Option.bind_some, refLines_is _ s (by omega) K (by omega), Option.bind_some, texts_is _ (by omega) K (by omega), Option.bind_some, if_pos rfl, works16 K (by omega), Option.bind_some]
end Go.Proofs.YtbjbpgmjijeppaaGreatDoor.Pl
set_option linter.unusedVariables false
namespace Go.Proofs.YtbjbpgmjijeppaaGreatDoor.Fn
open Go.RowKit Go.ChangeShapes Go.WideShapes Go.Proofs.YtbjbpgmjijeppaaGreatDoorW.PrintWords

/-! A slice of fields (two texts each) that came in. -/
def strOf : Value → ByteArray | .string s => s | _ => ByteArray.empty
theorem open_fields {H : Type} {enc : TypeId × Value → H} {w : World} {base : Nat} {spare : Nat → Bool} {held : Bool} {fuel : Nat} {v : Value} {x : DataW H × List MemPlace}
    (h : DataW.trod enc Tryz.prog w base spare held fuel 29 [v] = some x) :
    ∃ (A : Option Addr) (c : Nat) (l : List (S67)), v = .slice A l.length c ∧ l.length ≤ c ∧ c ≤ maxLen ∧ Kd.C k67 w A l.length l := by
  rcases Go.Deep.open_slice_pairs Tryz.underlying29 Tryz.underlying67 (by kernel_rfl) rfl rfl (by kernel_rfl) (by kernel_rfl) h with ⟨h0, _⟩ | ⟨a, len, cap, m, n, V0, V1, D0, D1, P0, P1, hv, hb, hl, hm, hmm, _, hx⟩
  · refine ⟨none, 0, [], ?_, Nat.le_refl _, Nat.zero_le _, ?_⟩
    · simpa using h0
    · exact ⟨rfl, by simp, fun h => absurd h (by simp)⟩
  · have hlm : len ≤ m := by rw [hmm]; split <;> omega
    have s0 : ∀ i, i < len → V0 i = .string (strOf (V0 i)) := fun i hi => by
      obtain ⟨_, _, g, _⟩ := hx i (by omega)
      obtain ⟨s, e, _⟩ := DataW.trod_string Tryz.underlying9 g
      simp only [List.cons.injEq, and_true] at e
      rw [e]; rfl
    have s1 : ∀ i, i < len → V1 i = .string (strOf (V1 i)) := fun i hi => by
      obtain ⟨_, _, _, g⟩ := hx i (by omega)
      obtain ⟨s, e, _⟩ := DataW.trod_string Tryz.underlying9 g
      simp only [List.cons.injEq, and_true] at e
      rw [e]; rfl
    have hlen : ((List.range len).map fun i => (⟨strOf (V0 i), strOf (V1 i)⟩ : S67)).length = len := by simp
    refine ⟨some a, cap, (List.range len).map fun i => ⟨strOf (V0 i), strOf (V1 i)⟩, ?_, by rw [hlen]; exact hl, hm, ?_⟩
    · rw [hlen]; simpa using hv
    · rw [hlen]
      refine ⟨hlen, by unfold maxLen at hm; omega, fun h0 => ⟨a, rfl, fun j p hp => ?_⟩⟩
      have hj : j < len := by
        have := (List.getElem?_eq_some_iff.1 hp).1
        rwa [hlen] at this
      have hp' : p = ⟨strOf (V0 j), strOf (V1 j)⟩ := by
        rw [List.getElem?_map, List.getElem?_range hj] at hp
        exact (Option.some.inj hp).symm
      subst hp'
      obtain ⟨g0, g1, _, _⟩ := hx j (by omega)
      rw [s0 j hj] at g0
      rw [s1 j hj] at g1
      refine ⟨[.string (strOf (V0 j)), .string (strOf (V1 j))], rfl, k67_mk w _, fun i u hu => ?_⟩
      match i, hu with
      | 0, hu => obtain rfl := Option.some.inj hu; exact g0
      | 1, hu => obtain rfl := Option.some.inj hu; exact g1
      | i + 2, hu => simp at hu
end Go.Proofs.YtbjbpgmjijeppaaGreatDoor.Fn
