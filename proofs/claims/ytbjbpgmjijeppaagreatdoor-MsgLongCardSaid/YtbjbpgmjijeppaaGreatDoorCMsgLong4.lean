/- A part of the proof of this sentence: A message of so many bytes is taken just if it has at most 65536; the tables of unicode/utf8 are as the program's text lays them. -/
import Derived.Test.YtbjbpgmjijeppaaGreatDoorCMsgLong3
namespace Go.Proofs.YtbjbpgmjijeppaaGreatDoor.Fn
open Go.RowKit Go.Proofs.YtbjbpgmjijeppaaGreatDoorW.PrintWords Go.Proofs.YtbjbpgmjijeppaaGreatDoorW.PrintLast Go.Proofs.YtbjbpgmjijeppaaGreatDoorW.PrintMore
attribute [local go_sem] max2_int min2_int max_two min_two max_three min_three max_four min_four
set_option linter.unusedVariables false
set_option linter.unusedSimpArgs false

/-! ### head_Parse: function 36 -/
mutual
def head_Parse.j1 : Nat → List (S46) → ByteArray → Option ((List (S46)) × ByteArray × Int)
 | 0, _, _ => none
 | k + 1, x2, x3 => head_Parse.l1 k x2 x3 (x2.length : Int) 0
def head_Parse.l1 : Nat → List (S46) → ByteArray → Int → Int → Option ((List (S46)) × ByteArray × Int)
 | 0, _, _, _, _ => none
 | k + 1, x2, x3, x33, x34 => if x34 < x33 then (if 0 ≤ x34 then (if x34 < (x2.length : Int) then ((head_trim.f ((rd_T46 x2 x34).f1)).bind fun t126 => (head_Parse.l1 k (x2.set (x34 : Int).toNat (⟨(rd_T46 x2 x34).f0, t126⟩ : S46)) x3 x33 (wrap64 (x34 + 1)))) else (none)) else (none)) else (some (x2, x3, 0))
def head_Parse.l0 : Nat → ByteArray → List (S46) → ByteArray → Option ((List (S46)) × ByteArray × Int)
 | 0, _, _, _ => none
 | k + 1, x0, x2, x3 => if x0.toList = ([] : List UInt8) then (head_Parse.j1 k x2 x3) else ((strings_Cut.f x0 (⟨#[13, 10]⟩ : ByteArray)).bind fun bt118 => (if bt118.2.2 = true then (if bt118.1.toList = ([] : List UInt8) then (head_Parse.j1 k x2 bt118.2.1) else ((head_grow.f k x2 bt118.1).bind fun bt121 => (if bt121.2 = 0 then (head_Parse.l0 k bt118.2.1 bt121.1 x3) else (some (([] : List (S46)), (⟨#[]⟩ : ByteArray), bt121.2))))) else (some (([] : List (S46)), (⟨#[]⟩ : ByteArray), 9))))
end
def head_Parse.f (k : Nat) (a0 : ByteArray) : Option ((List (S46)) × ByteArray × Int) := head_Parse.l0 k a0 ([] : List (S46)) (⟨#[]⟩ : ByteArray)
theorem head_Parse.mono_l : ∀ k, (∀ y0 y1, LeO (head_Parse.j1 k y0 y1) (head_Parse.j1 (k + 1) y0 y1)) ∧ (∀ y0 y1 y2 y3, LeO (head_Parse.l1 k y0 y1 y2 y3) (head_Parse.l1 (k + 1) y0 y1 y2 y3)) ∧ (∀ y0 y1 y2, LeO (head_Parse.l0 k y0 y1 y2) (head_Parse.l0 (k + 1) y0 y1 y2))
 | 0 => ⟨fun _ _ r h => by simp [head_Parse.j1] at h, fun _ _ _ _ r h => by simp [head_Parse.l1] at h, fun _ _ _ r h => by simp [head_Parse.l0] at h⟩
 | k + 1 => by
  obtain ⟨ih0, ih1, ih2⟩ := head_Parse.mono_l k
  refine ⟨?_, ?_, ?_⟩
  ·intro y0 y1
   unfold head_Parse.j1
   repeat' first
   | (with_reducible exact ih0 _ _)
   | (with_reducible exact ih1 _ _ _ _)
   | (with_reducible exact ih2 _ _ _)
   | (with_reducible exact head_grow.mono _ _ _)
   | (with_reducible exact LeO.refl _)
   | (with_reducible exact LeO.none _)
   | (with_reducible refine LeO.ite ?_ ?_)
   | (with_reducible refine LeO.bind ?_ (fun _ => ?_))
   | exact ih0 _ _
   | exact ih1 _ _ _ _
   | exact ih2 _ _ _
   | exact head_grow.mono _ _ _
   | exact LeO.none _
   | refine LeO.ite ?_ ?_
   | refine LeO.bind ?_ (fun _ => ?_)
  ·intro y0 y1 y2 y3
   unfold head_Parse.l1
   repeat' first
   | (with_reducible exact ih0 _ _)
   | (with_reducible exact ih1 _ _ _ _)
   | (with_reducible exact ih2 _ _ _)
   | (with_reducible exact head_grow.mono _ _ _)
   | (with_reducible exact LeO.refl _)
   | (with_reducible exact LeO.none _)
   | (with_reducible refine LeO.ite ?_ ?_)
   | (with_reducible refine LeO.bind ?_ (fun _ => ?_))
   | exact ih0 _ _
   | exact ih1 _ _ _ _
   | exact ih2 _ _ _
   | exact head_grow.mono _ _ _
   | exact LeO.none _
   | refine LeO.ite ?_ ?_
   | refine LeO.bind ?_ (fun _ => ?_)
  ·intro y0 y1 y2
   unfold head_Parse.l0
   repeat' first
   | (with_reducible exact ih0 _ _)
   | (with_reducible exact ih1 _ _ _ _)
   | (with_reducible exact ih2 _ _ _)
   | (with_reducible exact head_grow.mono _ _ _)
   | (with_reducible exact LeO.refl _)
   | (with_reducible exact LeO.none _)
   | (with_reducible refine LeO.ite ?_ ?_)
   | (with_reducible refine LeO.bind ?_ (fun _ => ?_))
   | exact ih0 _ _
   | exact ih1 _ _ _ _
   | exact ih2 _ _ _
   | exact head_grow.mono _ _ _
   | exact LeO.none _
   | refine LeO.ite ?_ ?_
   | refine LeO.bind ?_ (fun _ => ?_)
theorem head_Parse.mono : ∀ a0 k, LeO (head_Parse.f k a0) (head_Parse.f (k + 1) a0) := by
 intro a0 k
 obtain ⟨ih0, ih1, ih2⟩ := head_Parse.mono_l k
 unfold head_Parse.f
 repeat' first
   | (with_reducible exact ih0 _ _)
   | (with_reducible exact ih1 _ _ _ _)
   | (with_reducible exact ih2 _ _ _)
   | (with_reducible exact head_grow.mono _ _ _)
   | (with_reducible exact LeO.refl _)
   | (with_reducible exact LeO.none _)
   | (with_reducible refine LeO.ite ?_ ?_)
   | (with_reducible refine LeO.bind ?_ (fun _ => ?_))
   | exact ih0 _ _
   | exact ih1 _ _ _ _
   | exact ih2 _ _ _
   | exact head_grow.mono _ _ _
   | exact LeO.none _
   | refine LeO.ite ?_ ?_
   | refine LeO.bind ?_ (fun _ => ?_)
set_option maxHeartbeats 8000000 in
set_option maxRecDepth 100000 in
theorem head_Parse.calls (k : Nat) (a0 : ByteArray) (r1 : List (S46)) (r2 : ByteArray) (r3 : Int) (w : World) (hG : Glob w) (h : head_Parse.f k a0 = some (r1, r2, r3)) :
  Calls Tryz.prog 36 #[.string a0] w fun e w' => ∃ v0_ : Value, e = .returned (.tuple #[v0_, .string r2, .int .i64 r3]) ∧ Kd.R k46 46 w' w.heap.size (fun _ => True) v0_ r1 ∧ Below w.heap.size w w' := by
 have HB := Aside0.mk (Below.refl w.heap.size w)
 have H : (head_Parse.l0 k a0 ([] : List (S46)) (⟨#[]⟩ : ByteArray)) = some (r1, r2, r3) := h
 clear h
 have HC2 := Aside0.mk H
 clear H
 go_enter Tryz.func36, Tryz.ntmps36
 go_upto_block 0 with (fail)
 go_cut [2, 3] (fun v2 v3 wc => ∃ (kq : Nat) (x2_1 : List (S46)) (x3_1 : ByteArray), v3 = .string x3_1 ∧ Aside0 (head_Parse.j1 kq x2_1 x3_1 = some (r1, r2, r3)) ∧ Aside0 (kq ≤ k) ∧ Aside0 (Kd.R k46 46 wc w.heap.size (fun _ => True) v2 x2_1) ∧ Aside0 (Below w.heap.size w wc))
 case first =>
  have H := HC2.out
  clear HC2
  have H' := Aside0.mk H
  clear H
  go_wp2
  go_loopg [0, 2, 3] k (fun kq v0 v2 v3 w' => ∃ (x0_1 : ByteArray) (x2_1 : List (S46)) (x3_1 : ByteArray), v0 = .string x0_1 ∧ v3 = .string x3_1 ∧ Aside0 (head_Parse.l0 kq x0_1 x2_1 x3_1 = some (r1, r2, r3)) ∧ Aside0 (kq ≤ k) ∧ Aside0 (Kd.R k46 46 w' w.heap.size (fun _ => True) v2 x2_1) ∧ Aside0 (Below w.heap.size w w'))
  case atStart => exact ⟨(a0), (([] : List (S46))), ((⟨#[]⟩ : ByteArray)), cl, cl, H', ⟨Nat.le_refl _⟩, ⟨by first | exact Kd.R_nil _ _ _ _ _ | exact Kd.N_nil _ _ _ _ _ | exact Kd.V_nil _ _ _ _ _ | exact Kd.Q_nil _ _ _ _ _ | exact Kd.S_nil _ _ _ _ _⟩, ⟨bw⟩⟩
  case round =>
   clear H'
   try clear p2
   obtain ⟨x0_1, x2_1, x3_1, rfl, rfl, HA, HK1, HO_2, HB⟩ := hrel
   cases gk with
   | zero => exact absurd HA.out (by simp [head_Parse.l0])
   | succ k1 =>
    have H := HA.out
    clear HA
    simp only [head_Parse.l0] at H
    by_cases c3 : x0_1.toList = ([] : List UInt8)
    ·rw [if_pos c3] at H
     have c3b0 : (x0_1.toList == ([] : List UInt8)) = true := beq_iff_eq.mpr c3
     have c3b1 : (x0_1.toList != ([] : List UInt8)) = false := bne_eq_false_iff_eq.mpr c3
     clear c3
     (first | rw [c3b0] | (simp only [i64_w, i32_w]; rw [c3b0]) | skip)
     have H' := Aside0.mk H
     clear H
     go_wp2
     go_meet
     case rel => exact ⟨_, (x2_1), (x3_1), cl, H', ⟨by have := HK1.out; first | omega | exact Nat.le_refl _⟩, ⟨by (with_reducible repeat (first | apply Kd.R_alloc | apply Kd.R_drewN | apply Kd.R_drew)); exact HO_2.out⟩, ⟨bw⟩⟩
    ·rw [if_neg c3] at H
     have c3b0 : (x0_1.toList == ([] : List UInt8)) = false := beq_eq_false_iff_ne.mpr c3
     have c3b1 : (x0_1.toList != ([] : List UInt8)) = true := bne_iff_ne.mpr c3
     (first | rw [c3b0] | (simp only [i64_w, i32_w]; rw [c3b0]) | skip)
     replace H := Option.bind_eq_some_iff.mp H
     obtain ⟨⟨t118, t119, t120⟩, A40, H⟩ := H
     replace H : (if t120 = true then (if t118.toList = ([] : List UInt8) then (head_Parse.j1 k1 x2_1 t119) else ((head_grow.f k1 x2_1 t118).bind fun bt121 => (if bt121.2 = 0 then (head_Parse.l0 k1 t119 bt121.1 x3_1) else (some (([] : List (S46)), (⟨#[]⟩ : ByteArray), bt121.2))))) else (some (([] : List (S46)), (⟨#[]⟩ : ByteArray), 9))) = some (r1, r2, r3) := H
     have A4 := Aside0.mk A40
     clear A40
     by_cases c5 : t120 = true
     ·subst c5
      have H1 : (if t118.toList = ([] : List UInt8) then (head_Parse.j1 k1 x2_1 t119) else ((head_grow.f k1 x2_1 t118).bind fun bt121 => (if bt121.2 = 0 then (head_Parse.l0 k1 t119 bt121.1 x3_1) else (some (([] : List (S46)), (⟨#[]⟩ : ByteArray), bt121.2))))) = some (r1, r2, r3) := by rw [if_pos rfl] at H; exact H
      clear H
      have H := H1
      clear H1
      by_cases c6 : t118.toList = ([] : List UInt8)
      ·rw [if_pos c6] at H
       have c6b0 : (t118.toList == ([] : List UInt8)) = true := beq_iff_eq.mpr c6
       have c6b1 : (t118.toList != ([] : List UInt8)) = false := bne_eq_false_iff_eq.mpr c6
       clear c6
       have H' := Aside0.mk H
       clear H
       go_wp2_with (first | ((with_reducible refine gate_callee (f := 41) rfl ?_); refine goesL_ (some 13) rfl rfl Tryz.func41 (by kernel_rfl) rfl #[.string x0_1, .string (⟨#[13, 10]⟩ : ByteArray)] rfl am ?_; (with_reducible refine (strings_Cut.calls (hG := by first | exact hG | exact Glob.below hG (by first | exact HB.out | (repeat (first | (with_reducible first | exact HB.out | apply below_alloc | apply pw_below_drewN | apply below_drew1) | exact HB.out))) | exact Glob.drawn hG (by repeat (first | exact Drawn0.refl _ | apply Drawn0.step))) x0_1 (⟨#[13, 10]⟩ : ByteArray) t118 t119 true _ A4.out).mono ?_); rintro e w7 ⟨rfl, hb⟩; refine ⟨_, rfl, ?_⟩; have n0_ := Aside0.mk (Kd.R_below (by (with_reducible repeat (first | apply Kd.R_alloc | apply Kd.R_drewN | apply Kd.R_drew)); exact HO_2.out) hb); have n1_ := Aside0.mk (below_step bw hb); clear HO_2; clear HB; have HO_2 := n0_; have HB := n1_; clear n0_ n1_; (try clear hb); (try clear hb2); (try clear hk); (try clear hi)))
       go_meet
       case rel => exact ⟨_, (x2_1), (t119), cl, H', ⟨by have := HK1.out; first | omega | exact Nat.le_refl _⟩, ⟨by (with_reducible repeat (first | apply Kd.R_alloc | apply Kd.R_drewN | apply Kd.R_drew)); exact HO_2.out⟩, ⟨bw⟩⟩
      ·rw [if_neg c6] at H
       have c6b0 : (t118.toList == ([] : List UInt8)) = false := beq_eq_false_iff_ne.mpr c6
       have c6b1 : (t118.toList != ([] : List UInt8)) = true := bne_iff_ne.mpr c6
       replace H := Option.bind_eq_some_iff.mp H
       obtain ⟨⟨t121, t124⟩, A80, H⟩ := H
       replace H : (if t124 = 0 then (head_Parse.l0 k1 t119 t121 x3_1) else (some (([] : List (S46)), (⟨#[]⟩ : ByteArray), t124))) = some (r1, r2, r3) := H
       have A8 := Aside0.mk A80
       clear A80
       by_cases c9 : t124 = 0
       ·rw [if_pos c9] at H
        have c9b0 : (t124 == 0) = true := beq_iff_eq.mpr c9
        have c9b1 : (t124 != 0) = false := bne_eq_false_iff_eq.mpr c9
        clear c9
        have H' := Aside0.mk H
        clear H
        go_wp2_with (first | ((with_reducible refine gate_callee (f := 41) rfl ?_); refine goesL_ (some 13) rfl rfl Tryz.func41 (by kernel_rfl) rfl #[.string x0_1, .string (⟨#[13, 10]⟩ : ByteArray)] rfl am ?_; (with_reducible refine (strings_Cut.calls (hG := by first | exact hG | exact Glob.below hG (by first | exact HB.out | (repeat (first | (with_reducible first | exact HB.out | apply below_alloc | apply pw_below_drewN | apply below_drew1) | exact HB.out))) | exact Glob.drawn hG (by repeat (first | exact Drawn0.refl _ | apply Drawn0.step))) x0_1 (⟨#[13, 10]⟩ : ByteArray) t118 t119 true _ A4.out).mono ?_); rintro e w10 ⟨rfl, hb⟩; refine ⟨_, rfl, ?_⟩; have n0_ := Aside0.mk (Kd.R_below (by (with_reducible repeat (first | apply Kd.R_alloc | apply Kd.R_drewN | apply Kd.R_drew)); exact HO_2.out) hb); have n1_ := Aside0.mk (below_step bw hb); clear HO_2; clear HB; have HO_2 := n0_; have HB := n1_; clear n0_ n1_; (try clear hb); (try clear hb2); (try clear hk); (try clear hi); obtain ⟨Ao11, co11, eo11⟩ := Kd.R_slice HO_2.out; subst eo11) | ((with_reducible refine gate_callee (f := 60) rfl ?_); refine goesL_ (some 26) rfl rfl Tryz.func60 (by kernel_rfl) rfl #[.slice Ao11 x2_1.length co11, .string t118] rfl am ?_; (with_reducible refine (head_grow.calls (hG := by first | exact hG | exact Glob.below hG (by first | exact HB.out | (repeat (first | (with_reducible first | exact HB.out | apply below_alloc | apply pw_below_drewN | apply below_drew1) | exact HB.out))) | exact Glob.drawn hG (by repeat (first | exact Drawn0.refl _ | apply Drawn0.step))) k1 (fun k_ => some k_ = (.slice Ao11 x2_1.length co11 : Value).ownBlock) (.slice Ao11 x2_1.length co11) x2_1 t118 t121 t124 w _ ?side1 ?side2 A8.out).mono ?_); (case side1 => repeat (first | (with_reducible first | exact HB.out | apply below_alloc | apply pw_below_drewN | apply below_drew1) | exact HB.out)); (case side2 => exact Kd.R_tight rfl HO_2.out); rintro e w12 ⟨v122, rfl, ho0, hb, hkp⟩; refine ⟨_, rfl, ?_⟩; have n0_ := Aside0.mk (Kd.R_mono (ok' := fun k_ => True) ho0 (fun k_ hk_ => trivial)); have n1_ := Aside0.mk (hb); clear HB; clear HO_2; have HO123 := n0_; have HB := n1_; clear n0_ n1_; (try clear hb); (try clear hkp); (try clear ho0)))
        go_roundg k1
        case measure => have := HK1.out; omega
        case rel => exact ⟨(t119), (t121), (x3_1), cl, cl, H', ⟨by have := HK1.out; omega⟩, ⟨by (with_reducible repeat (first | apply Kd.R_alloc | apply Kd.R_drewN | apply Kd.R_drew)); exact HO123.out⟩, ⟨bw⟩⟩
       ·rw [if_neg c9] at H
        have c9b0 : (t124 == 0) = false := beq_eq_false_iff_ne.mpr c9
        have c9b1 : (t124 != 0) = true := bne_iff_ne.mpr c9
        simp only [Option.some.injEq, Prod.mk.injEq] at H
        obtain ⟨rfl, rfl, rfl⟩ := H
        go_wp2_with (first | ((with_reducible refine gate_callee (f := 41) rfl ?_); refine goesL_ (some 13) rfl rfl Tryz.func41 (by kernel_rfl) rfl #[.string x0_1, .string (⟨#[13, 10]⟩ : ByteArray)] rfl am ?_; (with_reducible refine (strings_Cut.calls (hG := by first | exact hG | exact Glob.below hG (by first | exact HB.out | (repeat (first | (with_reducible first | exact HB.out | apply below_alloc | apply pw_below_drewN | apply below_drew1) | exact HB.out))) | exact Glob.drawn hG (by repeat (first | exact Drawn0.refl _ | apply Drawn0.step))) x0_1 (⟨#[13, 10]⟩ : ByteArray) t118 t119 true _ A4.out).mono ?_); rintro e w13 ⟨rfl, hb⟩; refine ⟨_, rfl, ?_⟩; have n0_ := Aside0.mk (Kd.R_below (by (with_reducible repeat (first | apply Kd.R_alloc | apply Kd.R_drewN | apply Kd.R_drew)); exact HO_2.out) hb); have n1_ := Aside0.mk (below_step bw hb); clear HO_2; clear HB; have HO_2 := n0_; have HB := n1_; clear n0_ n1_; (try clear hb); (try clear hb2); (try clear hk); (try clear hi); obtain ⟨Ao14, co14, eo14⟩ := Kd.R_slice HO_2.out; subst eo14) | ((with_reducible refine gate_callee (f := 60) rfl ?_); refine goesL_ (some 26) rfl rfl Tryz.func60 (by kernel_rfl) rfl #[.slice Ao14 x2_1.length co14, .string t118] rfl am ?_; (with_reducible refine (head_grow.calls (hG := by first | exact hG | exact Glob.below hG (by first | exact HB.out | (repeat (first | (with_reducible first | exact HB.out | apply below_alloc | apply pw_below_drewN | apply below_drew1) | exact HB.out))) | exact Glob.drawn hG (by repeat (first | exact Drawn0.refl _ | apply Drawn0.step))) k1 (fun k_ => some k_ = (.slice Ao14 x2_1.length co14 : Value).ownBlock) (.slice Ao14 x2_1.length co14) x2_1 t118 t121 t124 w _ ?side1 ?side2 A8.out).mono ?_); (case side1 => repeat (first | (with_reducible first | exact HB.out | apply below_alloc | apply pw_below_drewN | apply below_drew1) | exact HB.out)); (case side2 => exact Kd.R_tight rfl HO_2.out); rintro e w15 ⟨v122, rfl, ho0, hb, hkp⟩; refine ⟨_, rfl, ?_⟩; have n0_ := Aside0.mk (Kd.R_mono (ok' := fun k_ => True) ho0 (fun k_ hk_ => trivial)); have n1_ := Aside0.mk (hb); clear HB; clear HO_2; have HO123 := n0_; have HB := n1_; clear n0_ n1_; (try clear hb); (try clear hkp); (try clear ho0)))
        go_ret3
        exact ⟨_, by first | rfl | (simp [errW_none, errW_some] <;> rfl) | (simp [*, errW_none, errW_some] <;> rfl), by first | exact Kd.R_nil _ _ _ _ _ | exact Kd.N_nil _ _ _ _ _ | exact Kd.V_nil _ _ _ _ _ | exact Kd.Q_nil _ _ _ _ _ | exact Kd.S_nil _ _ _ _ _, bw⟩
     ·replace c5 := Bool.eq_false_iff.mpr c5
      subst c5
      have H1 : (some (([] : List (S46)), (⟨#[]⟩ : ByteArray), 9)) = some (r1, r2, r3) := by rw [if_neg (show ¬ (false = true) by decide)] at H; exact H
      clear H
      have H := H1
      clear H1
      simp only [Option.some.injEq, Prod.mk.injEq] at H
      obtain ⟨rfl, rfl, rfl⟩ := H
      go_wp2_with (first | ((with_reducible refine gate_callee (f := 41) rfl ?_); refine goesL_ (some 13) rfl rfl Tryz.func41 (by kernel_rfl) rfl #[.string x0_1, .string (⟨#[13, 10]⟩ : ByteArray)] rfl am ?_; (with_reducible refine (strings_Cut.calls (hG := by first | exact hG | exact Glob.below hG (by first | exact HB.out | (repeat (first | (with_reducible first | exact HB.out | apply below_alloc | apply pw_below_drewN | apply below_drew1) | exact HB.out))) | exact Glob.drawn hG (by repeat (first | exact Drawn0.refl _ | apply Drawn0.step))) x0_1 (⟨#[13, 10]⟩ : ByteArray) t118 t119 false _ A4.out).mono ?_); rintro e w16 ⟨rfl, hb⟩; refine ⟨_, rfl, ?_⟩; have n0_ := Aside0.mk (Kd.R_below (by (with_reducible repeat (first | apply Kd.R_alloc | apply Kd.R_drewN | apply Kd.R_drew)); exact HO_2.out) hb); have n1_ := Aside0.mk (below_step bw hb); clear HO_2; clear HB; have HO_2 := n0_; have HB := n1_; clear n0_ n1_; (try clear hb); (try clear hb2); (try clear hk); (try clear hi)))
      go_ret3
      exact ⟨_, by first | rfl | (simp [errW_none, errW_some] <;> rfl) | (simp [*, errW_none, errW_some] <;> rfl), by first | exact Kd.R_nil _ _ _ _ _ | exact Kd.N_nil _ _ _ _ _ | exact Kd.V_nil _ _ _ _ _ | exact Kd.Q_nil _ _ _ _ _ | exact Kd.S_nil _ _ _ _ _, bw⟩
 case rest =>
  clear HC2
  try clear p2
  try clear c3
  try clear c3b0
  try clear c3b1
  try clear c4
  try clear c5
  try clear c6
  try clear c6b0
  try clear c6b1
  try clear c9
  try clear c9b0
  try clear c9b1
  try clear p2
  obtain ⟨kq, x2_1, x3_1, rfl, HA, HJ1, HO_2, HB⟩ := hcut
  cases kq with
  | zero => exact absurd HA.out (by simp [head_Parse.j1])
  | succ kj1 =>
   have H := HA.out
   clear HA
   simp only [head_Parse.j1] at H
   have H' := Aside0.mk H
   clear H
   obtain ⟨Ao17, co17, eo17⟩ := Kd.R_slice HO_2.out
   subst eo17
   go_wp2
   go_loopg [34] kj1 (fun kq v34 w' => ∃ (x2_2 : List (S46)) (x34_2 : Int), v34 = .int .i64 x34_2 ∧ Aside0 (head_Parse.l1 kq x2_2 x3_1 (x2_1.length : Int) x34_2 = some (r1, r2, r3)) ∧ Aside0 (kq ≤ kj1) ∧ Aside0 (Kd.R k46 46 w' w.heap.size (fun _ => True) (.slice Ao17 x2_1.length co17) x2_2) ∧ Aside0 (Below w.heap.size w w'))
   case atStart => exact ⟨(x2_1), (0), cl, H', ⟨Nat.le_refl _⟩, ⟨by (with_reducible repeat (first | apply Kd.R_alloc | apply Kd.R_drewN | apply Kd.R_drew)); exact HO_2.out⟩, ⟨bw⟩⟩
   case round =>
    clear H'
    try clear p2
    try clear c3
    try clear c3b0
    try clear c3b1
    try clear c4
    try clear c5
    try clear c6
    try clear c6b0
    try clear c6b1
    try clear c9
    try clear c9b0
    try clear c9b1
    try clear p2
    obtain ⟨x2_2, x34_2, rfl, HA, HK2, HO_2, HB⟩ := hrel
    have hl2_2 := (Kd.R_reads' HO_2.out).1
    rw [hl2_2] at HO_2
    (try simp only [hl2_2])
    cases gk with
    | zero => exact absurd HA.out (by simp [head_Parse.l1])
    | succ k2 =>
     have H := HA.out
     clear HA
     simp only [head_Parse.l1] at H
     by_cases c18 : x34_2 < (x2_1.length : Int)
     ·rw [if_pos c18] at H
      have c18b0 : decide (x34_2 < (x2_1.length : Int)) = true := decide_eq_true c18
      clear c18
      by_cases c19 : 0 ≤ x34_2
      ·rw [if_pos c19] at H
       have c19b0 : decide (0 ≤ x34_2) = true := decide_eq_true c19
       clear c19
       by_cases c20 : x34_2 < (x2_2.length : Int)
       ·rw [if_pos c20] at H
        have c20b0 : decide (x34_2 < (x2_2.length : Int)) = true := decide_eq_true c20
        clear c20
        replace H := Option.bind_eq_some_iff.mp H
        obtain ⟨t126, A210, H⟩ := H
        replace H : (head_Parse.l1 k2 (x2_2.set (x34_2 : Int).toNat (⟨(rd_T46 x2_2 x34_2).f0, t126⟩ : S46)) x3_1 (x2_1.length : Int) (wrap64 (x34_2 + 1))) = some (r1, r2, r3) := H
        have A21 := Aside0.mk A210
        clear A210
        obtain ⟨y127, hy127⟩ : ∃ y_ : List (S46), y_ = (x2_2.set (x34_2 : Int).toNat (⟨(rd_T46 x2_2 x34_2).f0, t126⟩ : S46)) := ⟨_, rfl⟩
        replace H : (head_Parse.l1 k2 y127 x3_1 (x2_1.length : Int) (wrap64 (x34_2 + 1))) = some (r1, r2, r3) := by first | (rw [hy127]; with_reducible exact H) | (have H2_ := (Option.bind_some _ _).symm.trans H; rw [hy127]; with_reducible exact H2_) | (have H2_ := (Option.bind_some _ _).symm.trans H; with_reducible exact H2_) | with_reducible exact H | (rw [hy127]; exact H) | exact H
        have Ny127 := Aside0.mk hy127
        clear hy127
        have H' := Aside0.mk H
        clear H
        have p125 : 0 ≤ (x34_2 : Int) := od
        have q125 : x34_2 < (x2_2.length : Int) := od
        obtain ⟨ad125, e125, hx125_0, hx125_1⟩ := at_T46 (Kd.R_reads' HO_2.out).2.2 x34_2 p125 q125
        cases e125
        replace p125 := eq_true p125
        replace q125 := eq_true q125
        go_wp2_with (first | ((with_reducible refine gate_callee (f := 46) rfl ?_); refine goesL_ (some 44) rfl rfl Tryz.func46 (by kernel_rfl) rfl #[.string ((rd_T46 x2_2 x34_2).f1)] rfl am ?_; (with_reducible refine (head_trim.calls ((rd_T46 x2_2 x34_2).f1) t126 _ A21.out).mono ?_); rintro e w23 ⟨rfl, hb⟩; refine ⟨_, rfl, ?_⟩; have n0_ := Aside0.mk (Kd.R_below (by (with_reducible repeat (first | apply Kd.R_alloc | apply Kd.R_drewN | apply Kd.R_drew)); exact HO_2.out) hb); have n1_ := Aside0.mk (below_step bw hb); clear HO_2; clear HB; have HO_2 := n0_; have HB := n1_; clear n0_ n1_; (try clear hb); (try clear hb2); (try clear hk); (try clear hi); have p22 : 0 ≤ (x34_2 : Int) := od; have q22 : (x34_2 : Int) < ((x2_2.length : Int) : Int) := od; obtain ⟨go22, co22, eo22, gb22, gl22, cl22, HG22⟩ := Kd.R_form HO_2.out (by omega); (first | cases eo22 | (injection eo22 with ea_ en_ ec_; (first | subst ea_ | (injection ea_ with ea_; subst ea_)); subst ec_; clear en_)); have GB22 := Aside0.mk gb22; have GG22 := Aside0.mk HG22; clear gb22 gl22 HG22; (first | simp only [add_plain] at hx125_0 | skip); (first | simp only [add_plain] at hx125_1 | skip); obtain ⟨ce22, hcl22, hM22, hcc22, hfr22⟩ := Kd.R_elem HO_2.out z46 (x34_2 : Int) p22 q22; obtain rfl := k46_openM hM22; have hx22_0 : w23.cell? ⟨go22, (x34_2 : Int).toNat * 2, none⟩ = some (.string ((rd_T46 x2_2 x34_2).f0)) := hcc22 0 _ rfl; have hx22_1 : w23.cell? ⟨go22, (x34_2 : Int).toNat * 2 + 1, none⟩ = some (.string ((rd_T46 x2_2 x34_2).f1)) := hcc22 1 _ rfl; have hf22_0 : w23.frozen? ⟨go22, (x34_2 : Int).toNat * 2, none⟩ = false := hfr22 0; have hf22_1 : w23.frozen? ⟨go22, (x34_2 : Int).toNat * 2 + 1, none⟩ = false := hfr22 1; clear hcl22 hcc22 hfr22 hM22; replace p22 := eq_true p22; replace q22 := eq_true q22; have HX24 := Aside0.mk (show Kd.R k46 46 w23 w.heap.size (fun _ => True) (.slice (some ⟨go22, 0, none⟩) x2_2.length co17) x2_2 from (by (with_reducible repeat (first | apply Kd.R_alloc | apply Kd.R_drewN | apply Kd.R_drew)); exact HO_2.out)); obtain ⟨ce24, hcl24, hM24, hcc24, hfr24⟩ := Kd.R_elem HX24.out z46 (x34_2 : Int) (od) (by have h_ : (x34_2 : Int) < ((x2_2.length : Int) : Int) := od; first | exact h_ | (have e_ := (Kd.R_reads' HO_2.out).1; omega) | simpa using h_); obtain rfl := k46_openM hM24; have HP24 := Kd.R_seg HX24.out (x34_2 : Int) (od) (by have h_ : (x34_2 : Int) < ((x2_2.length : Int) : Int) := od; first | exact h_ | (have e_ := (Kd.R_reads' HO_2.out).1; omega) | simpa using h_) (seg := [.string t126]) (j := 1) hcl24 hcc24 (show 2 ≤ 2 from by decide) (x' := (⟨(rd_T46 x2_2 x34_2).f0, t126⟩ : S46)) (k46_mkM _ _ _ (⟨(rd_T46 x2_2 x34_2).f0, t126⟩ : S46) ) (fun _ hk => hk); have hx24_1 := hcc24 1 _ rfl; (try simp only [show (k46).sz = 2 from rfl, Nat.mul_one, Nat.add_zero] at hx24_1); have hf24_1 := hfr24 1; (try simp only [show (k46).sz = 2 from rfl, Nat.mul_one, Nat.add_zero] at hf24_1); clear hcl24 hcc24 hfr24 hM24) | ((with_reducible refine gate_store (t := 9) (p := 46) rfl ?_); refine store_event (t := 9) (p := 46) (v := ?vo_w25) (w1 := (w23.setCell ⟨go22, (x34_2 : Int).toNat * 2 + 1, none⟩ (.string t126))) ?hg ?ho ?hn ?hr ?_; (case ho => rfl); (case hg => rfl); (case hn => rfl); (case hr => first | (go_simp; done) | (go_simp; rfl)); intro w25 hw; have hg : w23.grownBy w25 (some go22) := (by rw [hw]; exact HP24.2); have hp_ : Kd.R k46 46 w25 w.heap.size (fun _ => True) (.slice (some ⟨go22, 0, none⟩) x2_2.length co17) y127 := (by rw [hw, Ny127.out]; exact HP24.1); clear HP24; have n0_ := Aside0.mk (hp_); have n1_ := Aside0.mk ((by rw [hw]; exact below_set (HB.out) GB22.out : Below w.heap.size w w25)); clear HO_2; clear HB; have HO_2 := n0_; have HB := n1_; clear n0_ n1_; clear hg hw hp_))
        (try simp only [← hl2_2])
        go_roundg k2
        case measure => have := HJ1.out; have := HK2.out; omega
        case rel => exact ⟨(y127), (wrap64 (x34_2 + 1)), cl, H', ⟨by have := HJ1.out; have := HK2.out; omega⟩, ⟨by (try simp only [hl2_2]); (with_reducible repeat (first | apply Kd.R_alloc | apply Kd.R_drewN | apply Kd.R_drew)); exact HO_2.out⟩, ⟨bw⟩⟩
       ·rw [if_neg c20] at H
        exact absurd H (by simp)
      ·rw [if_neg c19] at H
       exact absurd H (by simp)
     ·rw [if_neg c18] at H
      have c18b0 : decide (x34_2 < (x2_1.length : Int)) = false := decide_eq_false c18
      (try simp only [hl2_2] at c18b0)
      clear c18
      simp only [Option.some.injEq, Prod.mk.injEq] at H
      obtain ⟨rfl, rfl, rfl⟩ := H
      go_wp2
      go_ret3
      exact ⟨_, by first | rfl | (simp [errW_none, errW_some] <;> rfl) | (simp [*, errW_none, errW_some] <;> rfl), by (with_reducible repeat (first | apply Kd.R_alloc | apply Kd.R_drewN | apply Kd.R_drew)); exact HO_2.out, bw⟩

end Go.Proofs.YtbjbpgmjijeppaaGreatDoor.Fn
namespace Go.Proofs.YtbjbpgmjijeppaaGreatDoor.Fn
open Go.RowKit Go.Proofs.YtbjbpgmjijeppaaGreatDoorW.PrintWords Go.Proofs.YtbjbpgmjijeppaaGreatDoorW.PrintLast Go.Proofs.YtbjbpgmjijeppaaGreatDoorW.PrintMore
attribute [local go_sem] max2_int min2_int max_two min_two max_three min_three max_four min_four
set_option linter.unusedVariables false
set_option linter.unusedSimpArgs false

/-! ### msg_Parse: function 10 -/
def msg_Parse.f (k : Nat) (a0 : ByteArray) : Option ((List (S46)) × ByteArray × Int) := if (a0.size : Int) > 65536 then (some (([] : List (S46)), (⟨#[]⟩ : ByteArray), 2)) else ((head_Parse.f k a0).bind fun bt129 => (if bt129.2.2 = 0 then (some (bt129.1, bt129.2.1, 0)) else (some (([] : List (S46)), (⟨#[]⟩ : ByteArray), bt129.2.2))))
theorem msg_Parse.mono : ∀ a0 k, LeO (msg_Parse.f k a0) (msg_Parse.f (k + 1) a0) := by
 intro a0 k
 unfold msg_Parse.f
 repeat' first
   | (with_reducible exact head_Parse.mono _ _)
   | (with_reducible exact LeO.refl _)
   | (with_reducible exact LeO.none _)
   | (with_reducible refine LeO.ite ?_ ?_)
   | (with_reducible refine LeO.bind ?_ (fun _ => ?_))
   | exact head_Parse.mono _ _
   | exact LeO.none _
   | refine LeO.ite ?_ ?_
   | refine LeO.bind ?_ (fun _ => ?_)
set_option maxHeartbeats 8000000 in
set_option maxRecDepth 100000 in
theorem msg_Parse.calls (k : Nat) (a0 : ByteArray) (r1 : List (S46)) (r2 : ByteArray) (r3 : Int) (w : World) (hG : Glob w) (h : msg_Parse.f k a0 = some (r1, r2, r3)) :
  Calls Tryz.prog 10 #[.string a0] w fun e w' => ∃ v0_ : Value, e = .returned (.tuple #[.agg #[v0_, .string r2], .int .i64 r3]) ∧ Kd.R k46 46 w' w.heap.size (fun _ => True) v0_ r1 ∧ Below w.heap.size w w' := by
 have hu25 := Tryz.underlying25
 have HB := Aside0.mk (Below.refl w.heap.size w)
 have H : (if (a0.size : Int) > 65536 then (some (([] : List (S46)), (⟨#[]⟩ : ByteArray), 2)) else ((head_Parse.f k a0).bind fun bt129 => (if bt129.2.2 = 0 then (some (bt129.1, bt129.2.1, 0)) else (some (([] : List (S46)), (⟨#[]⟩ : ByteArray), bt129.2.2))))) = some (r1, r2, r3) := h
 clear h
 by_cases c2 : (a0.size : Int) > 65536
 ·rw [if_pos c2] at H
  have c2b0 : decide (65536 < (a0.size : Int)) = true := decide_eq_true c2
  have c2b1 : decide (65536 < a0.size) = true := decide_eq_true (by omega)
  clear c2
  simp only [Option.some.injEq, Prod.mk.injEq] at H
  obtain ⟨rfl, rfl, rfl⟩ := H
  go_enter Tryz.func10, Tryz.ntmps10
  go_wp2_with (first | ((with_reducible refine gate_dst (N := 2) rfl ?_); refine box_event ?hg (N := 2) ?hd (cs := #[.slice none 0 0, .string (⟨#[]⟩ : ByteArray)]) (t := 25) ?hr ?_; (case hd => rfl); (case hg => rfl); (case hr => first | (go_simp; done) | (go_simp; rfl)); intro gb128 hg w3 hbox hb; have n0_ := Aside0.mk (below_step bw hb); have n1_ := Aside0.mk (hbox); have n2_ := Aside0.mk ((by rw [hg]; exact (below_size bw) : w.heap.size ≤ gb128)); have n3_ := Aside0.mk ((by rw [hg]; exact (below_size bw) : w.heap.size ≤ gb128)); clear HB; have HB := n0_; have BK128 := n1_; have GW128 := n2_; have GE128 := n3_; clear n0_ n1_ n2_ n3_; clear hb hbox hg; have hcz4_0 : w3.cell? ⟨gb128, 0, none⟩ = some (.slice none 0 0) := (blk_cell BK128.out 0).trans rfl; have hcz4_1 : w3.cell? ⟨gb128, 1, none⟩ = some (.string (⟨#[]⟩ : ByteArray)) := (blk_cell BK128.out 1).trans rfl; have hfz4_0 := blk_frozen BK128.out 0; have hfz4_1 := blk_frozen BK128.out 1))
  refine bodyPost_ret (results_ct rfl _ _ gb128 25 #[.slice none 0 0, .string (⟨#[]⟩ : ByteArray)] (0, 0) _ rfl (by (with_reducible repeat (first | refine blk_drewN ?_ _ | refine blk_drew ?_ | refine blk_alloc ?_ _)); refine blk_put (cs := #[.slice none 0 0, .string (⟨#[]⟩ : ByteArray)]) ?_ 1 _ rfl; (with_reducible repeat (first | refine blk_drewN ?_ _ | refine blk_drew ?_ | refine blk_alloc ?_ _)); refine blk_put (cs := #[.slice none 0 0, .string (⟨#[]⟩ : ByteArray)]) ?_ 0 _ rfl; (with_reducible repeat (first | refine blk_drewN ?_ _ | refine blk_drew ?_ | refine blk_alloc ?_ _)); exact BK128.out) Tryz.underlying25 rfl (by kernel_rfl)) rfl ?_
  exact ⟨_, by first | rfl | (simp [errW_none, errW_some] <;> rfl) | (simp [*, errW_none, errW_some] <;> rfl), by first | exact Kd.R_nil _ _ _ _ _ | exact Kd.N_nil _ _ _ _ _ | exact Kd.V_nil _ _ _ _ _ | exact Kd.Q_nil _ _ _ _ _ | exact Kd.S_nil _ _ _ _ _, bwS⟩
 ·rw [if_neg c2] at H
  have c2b0 : decide (65536 < (a0.size : Int)) = false := decide_eq_false c2
  have c2b1 : decide (65536 < a0.size) = false := decide_eq_false (by omega)
  clear c2
  replace H := Option.bind_eq_some_iff.mp H
  obtain ⟨⟨t129, t130, t131⟩, A50, H⟩ := H
  replace H : (if t131 = 0 then (some (t129, t130, 0)) else (some (([] : List (S46)), (⟨#[]⟩ : ByteArray), t131))) = some (r1, r2, r3) := H
  have A5 := Aside0.mk A50
  clear A50
  by_cases c6 : t131 = 0
  ·rw [if_pos c6] at H
   have c6b0 : (t131 == 0) = true := beq_iff_eq.mpr c6
   have c6b1 : (t131 != 0) = false := bne_eq_false_iff_eq.mpr c6
   clear c6
   simp only [Option.some.injEq, Prod.mk.injEq] at H
   obtain ⟨rfl, rfl, rfl⟩ := H
   go_enter Tryz.func10, Tryz.ntmps10
   go_wp2_with (first | ((with_reducible refine gate_dst (N := 2) rfl ?_); refine box_event ?hg (N := 2) ?hd (cs := #[.slice none 0 0, .string (⟨#[]⟩ : ByteArray)]) (t := 25) ?hr ?_; (case hd => rfl); (case hg => rfl); (case hr => first | (go_simp; done) | (go_simp; rfl)); intro gb128 hg w7 hbox hb; have n0_ := Aside0.mk (below_step bw hb); have n1_ := Aside0.mk (hbox); have n2_ := Aside0.mk ((by rw [hg]; exact (below_size bw) : w.heap.size ≤ gb128)); have n3_ := Aside0.mk ((by rw [hg]; exact (below_size bw) : w.heap.size ≤ gb128)); clear HB; have HB := n0_; have BK128 := n1_; have GW128 := n2_; have GE128 := n3_; clear n0_ n1_ n2_ n3_; clear hb hbox hg) | ((with_reducible refine gate_callee (f := 36) rfl ?_); refine goesL_ (some 13) rfl rfl Tryz.func36 (by kernel_rfl) rfl #[.string a0] rfl am ?_; (with_reducible refine (head_Parse.calls (hG := by first | exact hG | exact Glob.below hG (by first | exact HB.out | (repeat (first | (with_reducible first | exact HB.out | apply below_alloc | apply pw_below_drewN | apply below_drew1 | refine below_set ?_ GE128.out) | exact HB.out))) | exact Glob.drawn hG (by repeat (first | exact Drawn0.refl _ | apply Drawn0.step))) k a0 t129 t130 t131 _ A5.out).mono ?_); rintro e w8 ⟨v132, rfl, ho0, hb⟩; refine ⟨_, rfl, ?_⟩; have n0_ := Aside0.mk (Kd.R_lower ho0 (below_size bwS)); have n1_ := Aside0.mk (blk_below (g := gb128) (o := .cells #[.slice none 0 0, .string (⟨#[]⟩ : ByteArray)] 25 (0, 0)) bk hb); have n2_ := Aside0.mk (below_step bwS hb); clear BK128; clear HB; have HO133 := n0_; have BK128 := n1_; have HB := n2_; clear n0_ n1_ n2_; (try clear hb); (try clear hb2); (try clear hk); (try clear hi); (try clear ho0); obtain ⟨Ao9, co9, eo9⟩ := Kd.R_slice HO133.out; subst eo9; have hcz10_0 : w8.cell? ⟨gb128, 0, none⟩ = some (.slice none 0 0) := (blk_cell BK128.out 0).trans rfl; have hcz10_1 : w8.cell? ⟨gb128, 1, none⟩ = some (.string (⟨#[]⟩ : ByteArray)) := (blk_cell BK128.out 1).trans rfl; have hfz10_0 := blk_frozen BK128.out 0; have hfz10_1 := blk_frozen BK128.out 1))
   refine bodyPost_ret (results_ct rfl _ _ gb128 25 #[.slice Ao9 t129.length co9, .string t130] (0, 0) _ rfl (by (with_reducible repeat (first | refine blk_drewN ?_ _ | refine blk_drew ?_ | refine blk_alloc ?_ _)); refine blk_put (cs := #[.slice Ao9 t129.length co9, .string (⟨#[]⟩ : ByteArray)]) ?_ 1 _ rfl; (with_reducible repeat (first | refine blk_drewN ?_ _ | refine blk_drew ?_ | refine blk_alloc ?_ _)); refine blk_put (cs := #[.slice none 0 0, .string (⟨#[]⟩ : ByteArray)]) ?_ 0 _ rfl; (with_reducible repeat (first | refine blk_drewN ?_ _ | refine blk_drew ?_ | refine blk_alloc ?_ _)); exact BK128.out) Tryz.underlying25 rfl (by kernel_rfl)) rfl ?_
   exact ⟨_, by first | rfl | (simp [errW_none, errW_some] <;> rfl) | (simp [*, errW_none, errW_some] <;> rfl), by (with_reducible repeat (first | apply Kd.R_alloc | apply Kd.R_drewN | apply Kd.R_drew)); exact Kd.R_mono (Kd.R_far (p := ⟨gb128, 1, none⟩) (Kd.R_far (p := ⟨gb128, 0, none⟩) (Kd.R_types HO133.out BK128.out (by decide)) (fun _ hk => hk.2) (.slice Ao9 t129.length co9)) (fun _ hk => hk.2) (.string t130)) (fun _ hk => trivial), bwS⟩
  ·rw [if_neg c6] at H
   have c6b0 : (t131 == 0) = false := beq_eq_false_iff_ne.mpr c6
   have c6b1 : (t131 != 0) = true := bne_iff_ne.mpr c6
   simp only [Option.some.injEq, Prod.mk.injEq] at H
   obtain ⟨rfl, rfl, rfl⟩ := H
   go_enter Tryz.func10, Tryz.ntmps10
   go_wp2_with (first | ((with_reducible refine gate_dst (N := 2) rfl ?_); refine box_event ?hg (N := 2) ?hd (cs := #[.slice none 0 0, .string (⟨#[]⟩ : ByteArray)]) (t := 25) ?hr ?_; (case hd => rfl); (case hg => rfl); (case hr => first | (go_simp; done) | (go_simp; rfl)); intro gb128 hg w11 hbox hb; have n0_ := Aside0.mk (below_step bw hb); have n1_ := Aside0.mk (hbox); have n2_ := Aside0.mk ((by rw [hg]; exact (below_size bw) : w.heap.size ≤ gb128)); have n3_ := Aside0.mk ((by rw [hg]; exact (below_size bw) : w.heap.size ≤ gb128)); clear HB; have HB := n0_; have BK128 := n1_; have GW128 := n2_; have GE128 := n3_; clear n0_ n1_ n2_ n3_; clear hb hbox hg) | ((with_reducible refine gate_callee (f := 36) rfl ?_); refine goesL_ (some 13) rfl rfl Tryz.func36 (by kernel_rfl) rfl #[.string a0] rfl am ?_; (with_reducible refine (head_Parse.calls (hG := by first | exact hG | exact Glob.below hG (by first | exact HB.out | (repeat (first | (with_reducible first | exact HB.out | apply below_alloc | apply pw_below_drewN | apply below_drew1 | refine below_set ?_ GE128.out) | exact HB.out))) | exact Glob.drawn hG (by repeat (first | exact Drawn0.refl _ | apply Drawn0.step))) k a0 t129 t130 t131 _ A5.out).mono ?_); rintro e w12 ⟨v132, rfl, ho0, hb⟩; refine ⟨_, rfl, ?_⟩; have n0_ := Aside0.mk (Kd.R_lower ho0 (below_size bwS)); have n1_ := Aside0.mk (blk_below (g := gb128) (o := .cells #[.slice none 0 0, .string (⟨#[]⟩ : ByteArray)] 25 (0, 0)) bk hb); have n2_ := Aside0.mk (below_step bwS hb); clear BK128; clear HB; have HO133 := n0_; have BK128 := n1_; have HB := n2_; clear n0_ n1_ n2_; (try clear hb); (try clear hb2); (try clear hk); (try clear hi); (try clear ho0); have hcz13_0 : w12.cell? ⟨gb128, 0, none⟩ = some (.slice none 0 0) := (blk_cell BK128.out 0).trans rfl; have hcz13_1 : w12.cell? ⟨gb128, 1, none⟩ = some (.string (⟨#[]⟩ : ByteArray)) := (blk_cell BK128.out 1).trans rfl; have hfz13_0 := blk_frozen BK128.out 0; have hfz13_1 := blk_frozen BK128.out 1))
   refine bodyPost_ret (results_ct rfl _ _ gb128 25 #[.slice none 0 0, .string (⟨#[]⟩ : ByteArray)] (0, 0) _ rfl (by (with_reducible repeat (first | refine blk_drewN ?_ _ | refine blk_drew ?_ | refine blk_alloc ?_ _)); refine blk_put (cs := #[.slice none 0 0, .string (⟨#[]⟩ : ByteArray)]) ?_ 1 _ rfl; (with_reducible repeat (first | refine blk_drewN ?_ _ | refine blk_drew ?_ | refine blk_alloc ?_ _)); refine blk_put (cs := #[.slice none 0 0, .string (⟨#[]⟩ : ByteArray)]) ?_ 0 _ rfl; (with_reducible repeat (first | refine blk_drewN ?_ _ | refine blk_drew ?_ | refine blk_alloc ?_ _)); exact BK128.out) Tryz.underlying25 rfl (by kernel_rfl)) rfl ?_
   exact ⟨_, by first | rfl | (simp [errW_none, errW_some] <;> rfl) | (simp [*, errW_none, errW_some] <;> rfl), by first | exact Kd.R_nil _ _ _ _ _ | exact Kd.N_nil _ _ _ _ _ | exact Kd.V_nil _ _ _ _ _ | exact Kd.Q_nil _ _ _ _ _ | exact Kd.S_nil _ _ _ _ _, bwS⟩

end Go.Proofs.YtbjbpgmjijeppaaGreatDoor.Fn
namespace Go.Proofs.YtbjbpgmjijeppaaGreatDoor.Fn
open Go.RowKit Go.Proofs.YtbjbpgmjijeppaaGreatDoorW.PrintWords Go.Proofs.YtbjbpgmjijeppaaGreatDoorW.PrintLast Go.Proofs.YtbjbpgmjijeppaaGreatDoorW.PrintMore
attribute [local go_sem] max2_int min2_int max_two min_two max_three min_three max_four min_four
set_option linter.unusedVariables false
set_option linter.unusedSimpArgs false

/-! ### bulletinlaw16_works: function 9 -/
def bulletinlaw16_works.f (k : Nat)  : Option (Bool) := (msg_Parse.f k (⟨#[70, 114, 111, 109, 58, 32, 65, 110, 110, 32, 60, 97, 64, 98, 62, 13, 10, 13, 10, 104, 105, 13, 10]⟩ : ByteArray)).bind fun bt289 => ((msg_Message_From.f k bt289.1 bt289.2.1).bind fun bt295 => ((msg_Message_Lines.f k bt289.1 bt289.2.1).bind fun t300 => (if bt289.2.2 = 0 then (if bt295.2.2.2 = 0 then (if bt295.1.toList = ([65, 110, 110] : List UInt8) then (if bt295.2.1.toList = ([97] : List UInt8) then (if (t300.length : Int) = 1 then (if 0 < (t300.length : Int) then (if (rdOf ByteArray.empty t300 0).toList = ([104, 105] : List UInt8) then ((msg_Message_Text.f bt289.1 bt289.2.1).bind fun t304 => (some (t304.toList == ([70, 114, 111, 109, 58, 32, 65, 110, 110, 32, 60, 97, 64, 98, 62, 13, 10, 13, 10, 104, 105, 13, 10] : List UInt8)))) else (some false)) else (none)) else (some false)) else (some false)) else (some false)) else (some false)) else (some false))))
theorem bulletinlaw16_works.mono : ∀ k, LeO (bulletinlaw16_works.f k ) (bulletinlaw16_works.f (k + 1) ) := by
 intro  k
 unfold bulletinlaw16_works.f
 repeat' first
   | (with_reducible exact msg_Message_From.mono _ _ _)
   | (with_reducible exact msg_Message_Lines.mono _ _ _)
   | (with_reducible exact msg_Parse.mono _ _)
   | (with_reducible exact LeO.refl _)
   | (with_reducible exact LeO.none _)
   | (with_reducible refine LeO.ite ?_ ?_)
   | (with_reducible refine LeO.bind ?_ (fun _ => ?_))
   | exact msg_Message_From.mono _ _ _
   | exact msg_Message_Lines.mono _ _ _
   | exact msg_Parse.mono _ _
   | exact LeO.none _
   | refine LeO.ite ?_ ?_
   | refine LeO.bind ?_ (fun _ => ?_)
set_option maxHeartbeats 8000000 in
set_option maxRecDepth 100000 in
theorem bulletinlaw16_works.calls (k : Nat)  (r : Bool) (w : World) (hG : Glob w) (h : bulletinlaw16_works.f k  = some r) :
  Calls Tryz.prog 9 #[] w fun e w' => e = .returned (.bool r) ∧ Below w.heap.size w w' := by
 have hu25 := Tryz.underlying25
 have hu53 := Tryz.underlying53
 have HB := Aside0.mk (Below.refl w.heap.size w)
 have H : ((msg_Parse.f k (⟨#[70, 114, 111, 109, 58, 32, 65, 110, 110, 32, 60, 97, 64, 98, 62, 13, 10, 13, 10, 104, 105, 13, 10]⟩ : ByteArray)).bind fun bt289 => ((msg_Message_From.f k bt289.1 bt289.2.1).bind fun bt295 => ((msg_Message_Lines.f k bt289.1 bt289.2.1).bind fun t300 => (if bt289.2.2 = 0 then (if bt295.2.2.2 = 0 then (if bt295.1.toList = ([65, 110, 110] : List UInt8) then (if bt295.2.1.toList = ([97] : List UInt8) then (if (t300.length : Int) = 1 then (if 0 < (t300.length : Int) then (if (rdOf ByteArray.empty t300 0).toList = ([104, 105] : List UInt8) then ((msg_Message_Text.f bt289.1 bt289.2.1).bind fun t304 => (some (t304.toList == ([70, 114, 111, 109, 58, 32, 65, 110, 110, 32, 60, 97, 64, 98, 62, 13, 10, 13, 10, 104, 105, 13, 10] : List UInt8)))) else (some false)) else (none)) else (some false)) else (some false)) else (some false)) else (some false)) else (some false))))) = some r := h
 clear h
 replace H := Option.bind_eq_some_iff.mp H
 obtain ⟨⟨t289, t292, t293⟩, A10, H⟩ := H
 replace H : ((msg_Message_From.f k t289 t292).bind fun bt295 => ((msg_Message_Lines.f k t289 t292).bind fun t300 => (if t293 = 0 then (if bt295.2.2.2 = 0 then (if bt295.1.toList = ([65, 110, 110] : List UInt8) then (if bt295.2.1.toList = ([97] : List UInt8) then (if (t300.length : Int) = 1 then (if 0 < (t300.length : Int) then (if (rdOf ByteArray.empty t300 0).toList = ([104, 105] : List UInt8) then ((msg_Message_Text.f t289 t292).bind fun t304 => (some (t304.toList == ([70, 114, 111, 109, 58, 32, 65, 110, 110, 32, 60, 97, 64, 98, 62, 13, 10, 13, 10, 104, 105, 13, 10] : List UInt8)))) else (some false)) else (none)) else (some false)) else (some false)) else (some false)) else (some false)) else (some false)))) = some r := H
 have A1 := Aside0.mk A10
 clear A10
 replace H := Option.bind_eq_some_iff.mp H
 obtain ⟨⟨t295, t296, t297, t298⟩, A20, H⟩ := H
 replace H : ((msg_Message_Lines.f k t289 t292).bind fun t300 => (if t293 = 0 then (if t298 = 0 then (if t295.toList = ([65, 110, 110] : List UInt8) then (if t296.toList = ([97] : List UInt8) then (if (t300.length : Int) = 1 then (if 0 < (t300.length : Int) then (if (rdOf ByteArray.empty t300 0).toList = ([104, 105] : List UInt8) then ((msg_Message_Text.f t289 t292).bind fun t304 => (some (t304.toList == ([70, 114, 111, 109, 58, 32, 65, 110, 110, 32, 60, 97, 64, 98, 62, 13, 10, 13, 10, 104, 105, 13, 10] : List UInt8)))) else (some false)) else (none)) else (some false)) else (some false)) else (some false)) else (some false)) else (some false))) = some r := H
 have A2 := Aside0.mk A20
 clear A20
 replace H := Option.bind_eq_some_iff.mp H
 obtain ⟨t300, A30, H⟩ := H
 replace H : (if t293 = 0 then (if t298 = 0 then (if t295.toList = ([65, 110, 110] : List UInt8) then (if t296.toList = ([97] : List UInt8) then (if (t300.length : Int) = 1 then (if 0 < (t300.length : Int) then (if (rdOf ByteArray.empty t300 0).toList = ([104, 105] : List UInt8) then ((msg_Message_Text.f t289 t292).bind fun t304 => (some (t304.toList == ([70, 114, 111, 109, 58, 32, 65, 110, 110, 32, 60, 97, 64, 98, 62, 13, 10, 13, 10, 104, 105, 13, 10] : List UInt8)))) else (some false)) else (none)) else (some false)) else (some false)) else (some false)) else (some false)) else (some false)) = some r := H
 have A3 := Aside0.mk A30
 clear A30
 by_cases c4 : t293 = 0
 ·rw [if_pos c4] at H
  have c4b0 : (t293 == 0) = true := beq_iff_eq.mpr c4
  have c4b1 : (t293 != 0) = false := bne_eq_false_iff_eq.mpr c4
  clear c4
  by_cases c5 : t298 = 0
  ·rw [if_pos c5] at H
   have c5b0 : (t298 == 0) = true := beq_iff_eq.mpr c5
   have c5b1 : (t298 != 0) = false := bne_eq_false_iff_eq.mpr c5
   clear c5
   by_cases c6 : t295.toList = ([65, 110, 110] : List UInt8)
   ·rw [if_pos c6] at H
    have c6b0 : (t295.toList == ([65, 110, 110] : List UInt8)) = true := beq_iff_eq.mpr c6
    have c6b1 : (t295.toList != ([65, 110, 110] : List UInt8)) = false := bne_eq_false_iff_eq.mpr c6
    clear c6
    by_cases c7 : t296.toList = ([97] : List UInt8)
    ·rw [if_pos c7] at H
     have c7b0 : (t296.toList == ([97] : List UInt8)) = true := beq_iff_eq.mpr c7
     have c7b1 : (t296.toList != ([97] : List UInt8)) = false := bne_eq_false_iff_eq.mpr c7
     clear c7
     by_cases c8 : (t300.length : Int) = 1
     ·rw [if_pos c8] at H
      have c8b0 : ((t300.length : Int) == 1) = true := beq_iff_eq.mpr c8
      have c8b1 : ((t300.length : Int) != 1) = false := bne_eq_false_iff_eq.mpr c8
      clear c8
      by_cases c9 : 0 < (t300.length : Int)
      ·rw [if_pos c9] at H
       have c9b0 : decide (0 < (t300.length : Int)) = true := decide_eq_true c9
       have c9b1 : decide (0 < t300.length) = true := decide_eq_true (by omega)
       clear c9
       by_cases c10 : (rdOf ByteArray.empty t300 0).toList = ([104, 105] : List UInt8)
       ·rw [if_pos c10] at H
        have c10b0 : ((rdOf ByteArray.empty t300 0).toList == ([104, 105] : List UInt8)) = true := beq_iff_eq.mpr c10
        have c10b1 : ((rdOf ByteArray.empty t300 0).toList != ([104, 105] : List UInt8)) = false := bne_eq_false_iff_eq.mpr c10
        clear c10
        replace H := Option.bind_eq_some_iff.mp H
        obtain ⟨t304, A110, H⟩ := H
        replace H : (some (t304.toList == ([70, 114, 111, 109, 58, 32, 65, 110, 110, 32, 60, 97, 64, 98, 62, 13, 10, 13, 10, 104, 105, 13, 10] : List UInt8))) = some r := H
        have A11 := Aside0.mk A110
        clear A110
        obtain rfl := Option.some.inj H
        go_enter Tryz.func9, Tryz.ntmps9
        go_wp2_with (first | ((with_reducible refine gate_callee (f := 10) rfl ?_); refine goesL_ (some 7) rfl rfl Tryz.func10 (by kernel_rfl) rfl #[.string (⟨#[70, 114, 111, 109, 58, 32, 65, 110, 110, 32, 60, 97, 64, 98, 62, 13, 10, 13, 10, 104, 105, 13, 10]⟩ : ByteArray)] rfl am ?_; (with_reducible refine (msg_Parse.calls (hG := by first | exact hG | exact Glob.below hG (by first | exact HB.out | (repeat (first | (with_reducible first | exact HB.out | apply below_alloc | apply pw_below_drewN | apply below_drew1 | refine below_set ?_ GE294.out | refine below_set ?_ GE299.out) | exact HB.out))) | exact Glob.drawn hG (by repeat (first | exact Drawn0.refl _ | apply Drawn0.step))) k (⟨#[70, 114, 111, 109, 58, 32, 65, 110, 110, 32, 60, 97, 64, 98, 62, 13, 10, 13, 10, 104, 105, 13, 10]⟩ : ByteArray) t289 t292 t293 _ A1.out).mono ?_); rintro e w12 ⟨v290, rfl, ho0, hb⟩; refine ⟨_, rfl, ?_⟩; have n0_ := Aside0.mk (Kd.R_lower ho0 (below_size bw)); have n1_ := Aside0.mk (below_step bw hb); clear HB; have HO291 := n0_; have HB := n1_; clear n0_ n1_; (try clear hb); (try clear hb2); (try clear hk); (try clear hi); (try clear ho0)) | ((with_reducible refine gate_dst (N := 1) rfl ?_); (try (refine gate_guard (by rfl) ?_; dsimp only)); refine box_event ?hg (N := 1) ?hd (cs := #[.slice none 0 0, .string (⟨#[]⟩ : ByteArray)]) (t := 25) ?hr ?_; (case hd => rfl); (case hg => rfl); (case hr => first | (go_simp; done) | (go_simp; rfl)); intro gb294 hg w13 hbox hb; have n0_ := Aside0.mk (Kd.R_below (by (with_reducible repeat (first | apply Kd.R_alloc | apply Kd.R_drewN | apply Kd.R_drew)); exact HO291.out) hb); have n1_ := Aside0.mk (below_step bw hb); have n2_ := Aside0.mk (hbox); have n3_ := Aside0.mk ((by rw [hg]; exact (below_size bw) : w.heap.size ≤ gb294)); have n4_ := Aside0.mk ((by rw [hg]; exact (below_size bw) : w.heap.size ≤ gb294)); clear HO291; clear HB; have HO291 := n0_; have HB := n1_; have BK294 := n2_; have GW294 := n3_; have GE294 := n4_; clear n0_ n1_ n2_ n3_ n4_; clear hb hbox hg; obtain ⟨Ao14, co14, eo14⟩ := Kd.R_slice HO291.out; subst eo14; have hcz15_0 : w13.cell? ⟨gb294, 0, none⟩ = some (.slice none 0 0) := (blk_cell BK294.out 0).trans rfl; have hcz15_1 : w13.cell? ⟨gb294, 1, none⟩ = some (.string (⟨#[]⟩ : ByteArray)) := (blk_cell BK294.out 1).trans rfl; have hfz15_0 := blk_frozen BK294.out 0; have hfz15_1 := blk_frozen BK294.out 1) | ((with_reducible refine gate_callee (f := 22) rfl ?_); refine goesL_ (some 12) rfl rfl Tryz.func22 (by kernel_rfl) rfl #[.agg #[.slice Ao14 t289.length co14, .string t292]] rfl am ?_; (with_reducible refine (msg_Message_From.calls (hG := by first | exact hG | exact Glob.below hG (by first | exact HB.out | (repeat (first | (with_reducible first | exact HB.out | apply below_alloc | apply pw_below_drewN | apply below_drew1 | refine below_set ?_ GE294.out | refine below_set ?_ GE299.out) | exact HB.out))) | exact Glob.drawn hG (by repeat (first | exact Drawn0.refl _ | apply Drawn0.step))) k _ _ t289 t292 t295 t296 t297 t298 _ ?side1 ?side2 A2.out).mono ?_); (case side1 => refine (Kd.R_reads' (e := 46) (base := w.heap.size) (ok := fun k_ => True) (n := t289.length) (c := co14) ?_).2.2; exact (by (with_reducible repeat (first | apply Kd.R_alloc | apply Kd.R_drewN | apply Kd.R_drew)); exact (Kd.R_mono (Kd.R_far (p := ⟨gb294, 1, none⟩) (Kd.R_far (p := ⟨gb294, 0, none⟩) (Kd.R_types HO291.out BK294.out (by decide)) (fun _ hk => hk.2) (.slice Ao14 t289.length co14)) (fun _ hk => hk.2) (.string t292)) (fun _ h_ => h_.1)))); (case side2 => exact (Kd.R_reads' HO291.out).2.1); rintro e w16 ⟨rfl, hb⟩; refine ⟨_, rfl, ?_⟩; have n0_ := Aside0.mk (Kd.R_below (by (with_reducible repeat (first | apply Kd.R_alloc | apply Kd.R_drewN | apply Kd.R_drew)); exact (Kd.R_mono (Kd.R_far (p := ⟨gb294, 1, none⟩) (Kd.R_far (p := ⟨gb294, 0, none⟩) (Kd.R_types HO291.out BK294.out (by decide)) (fun _ hk => hk.2) (.slice Ao14 t289.length co14)) (fun _ hk => hk.2) (.string t292)) (fun _ h_ => h_.1))) hb); have n1_ := Aside0.mk (blk_below (g := gb294) (o := .cells #[.slice Ao14 t289.length co14, .string t292] 25 (0, 0)) (by (with_reducible repeat (first | refine blk_drewN ?_ _ | refine blk_drew ?_ | refine blk_alloc ?_ _)); refine blk_put (cs := #[.slice Ao14 t289.length co14, .string (⟨#[]⟩ : ByteArray)]) ?_ 1 _ rfl; (with_reducible repeat (first | refine blk_drewN ?_ _ | refine blk_drew ?_ | refine blk_alloc ?_ _)); refine blk_put (cs := #[.slice none 0 0, .string (⟨#[]⟩ : ByteArray)]) ?_ 0 _ rfl; (with_reducible repeat (first | refine blk_drewN ?_ _ | refine blk_drew ?_ | refine blk_alloc ?_ _)); exact BK294.out) hb); have n2_ := Aside0.mk (below_step bwS hb); clear HO291; clear BK294; clear HB; have HO291 := n0_; have BK294 := n1_; have HB := n2_; clear n0_ n1_ n2_; (try clear hb); (try clear hb2); (try clear hk); (try clear hi)) | ((with_reducible refine gate_dst (N := 3) rfl ?_); (try (refine gate_guard (by rfl) ?_; dsimp only)); refine box_event ?hg (N := 3) ?hd (cs := #[.string (⟨#[]⟩ : ByteArray), .string (⟨#[]⟩ : ByteArray), .string (⟨#[]⟩ : ByteArray)]) (t := 53) ?hr ?_; (case hd => rfl); (case hg => rfl); (case hr => first | (go_simp; done) | (go_simp; rfl)); intro gb299 hg w17 hbox hb; have n0_ := Aside0.mk (Kd.R_below (by (with_reducible repeat (first | apply Kd.R_alloc | apply Kd.R_drewN | apply Kd.R_drew)); exact HO291.out) hb); have n1_ := Aside0.mk (blk_below (g := gb294) (o := .cells #[.slice Ao14 t289.length co14, .string t292] 25 (0, 0)) bk hb); have n2_ := Aside0.mk (below_step bwS hb); have n3_ := Aside0.mk (hbox); have n4_ := Aside0.mk ((by rw [hg]; exact (below_size bwS) : w.heap.size ≤ gb299)); have n5_ := Aside0.mk ((by rw [hg]; exact (below_size bwS) : w.heap.size ≤ gb299)); have n6_ := Aside0.mk ((by rw [hg]; exact Nat.ne_of_lt (blk_lt (g := gb294) (o := .cells #[.slice Ao14 t289.length co14, .string t292] 25 (0, 0)) bk) : gb294 ≠ gb299)); have n7_ := Aside0.mk ((by rw [hg]; exact Nat.ne_of_gt (blk_lt (g := gb294) (o := .cells #[.slice Ao14 t289.length co14, .string t292] 25 (0, 0)) bk) : gb299 ≠ gb294)); clear HO291; clear BK294; clear HB; have HO291 := n0_; have BK294 := n1_; have HB := n2_; have BK299 := n3_; have GW299 := n4_; have GE299 := n5_; have NB294_299 := n6_; have NB299_294 := n7_; clear n0_ n1_ n2_ n3_ n4_ n5_ n6_ n7_; clear hb hbox hg; have hnb18 := NB299_294.out; have hnc18 := NB294_299.out; have hcz19_0 : w17.cell? ⟨gb299, 0, none⟩ = some (.string (⟨#[]⟩ : ByteArray)) := (blk_cell BK299.out 0).trans rfl; have hcz19_1 : w17.cell? ⟨gb299, 1, none⟩ = some (.string (⟨#[]⟩ : ByteArray)) := (blk_cell BK299.out 1).trans rfl; have hcz19_2 : w17.cell? ⟨gb299, 2, none⟩ = some (.string (⟨#[]⟩ : ByteArray)) := (blk_cell BK299.out 2).trans rfl; have hfz19_0 := blk_frozen BK299.out 0; have hfz19_1 := blk_frozen BK299.out 1; have hfz19_2 := blk_frozen BK299.out 2; have hcz20_0 : w17.cell? ⟨gb294, 0, none⟩ = some (.slice Ao14 t289.length co14) := (blk_cell BK294.out 0).trans rfl; have hcz20_1 : w17.cell? ⟨gb294, 1, none⟩ = some (.string t292) := (blk_cell BK294.out 1).trans rfl; have hfz20_0 := blk_frozen BK294.out 0; have hfz20_1 := blk_frozen BK294.out 1) | ((with_reducible refine gate_callee (f := 16) rfl ?_); refine goesL_ (some 16) rfl rfl Tryz.func16 (by kernel_rfl) rfl #[.agg #[.slice Ao14 t289.length co14, .string t292]] rfl am ?_; (with_reducible refine (msg_Message_Lines.calls (hG := by first | exact hG | exact Glob.below hG (by first | exact HB.out | (repeat (first | (with_reducible first | exact HB.out | apply below_alloc | apply pw_below_drewN | apply below_drew1 | refine below_set ?_ GE294.out | refine below_set ?_ GE299.out) | exact HB.out))) | exact Glob.drawn hG (by repeat (first | exact Drawn0.refl _ | apply Drawn0.step))) k _ _ t289 t292 t300 _ ?side1 ?side2 A3.out).mono ?_); (case side1 => refine (Kd.R_reads' (e := 46) (base := w.heap.size) (ok := fun k_ => True) (n := t289.length) (c := co14) ?_).2.2; exact (by (with_reducible repeat (first | apply Kd.R_alloc | apply Kd.R_drewN | apply Kd.R_drew)); exact (Kd.R_mono (Kd.R_far (p := ⟨gb299, 2, none⟩) (Kd.R_far (p := ⟨gb299, 1, none⟩) (Kd.R_far (p := ⟨gb299, 0, none⟩) (Kd.R_types HO291.out BK299.out (by decide)) (fun _ hk => hk.2) (.string t295)) (fun _ hk => hk.2) (.string t296)) (fun _ hk => hk.2) (.string t297)) (fun _ h_ => h_.1)))); (case side2 => exact (Kd.R_reads' HO291.out).2.1); rintro e w21 ⟨v301, rfl, ho0, hb⟩; refine ⟨_, rfl, ?_⟩; have n0_ := Aside0.mk (Kd.R_below (by (with_reducible repeat (first | apply Kd.R_alloc | apply Kd.R_drewN | apply Kd.R_drew)); exact (Kd.R_mono (Kd.R_far (p := ⟨gb299, 2, none⟩) (Kd.R_far (p := ⟨gb299, 1, none⟩) (Kd.R_far (p := ⟨gb299, 0, none⟩) (Kd.R_types HO291.out BK299.out (by decide)) (fun _ hk => hk.2) (.string t295)) (fun _ hk => hk.2) (.string t296)) (fun _ hk => hk.2) (.string t297)) (fun _ h_ => h_.1))) hb); have n1_ := Aside0.mk (Kd.R_lower ho0 (below_size bwS)); have n2_ := Aside0.mk (blk_below (g := gb294) (o := .cells #[.slice Ao14 t289.length co14, .string t292] 25 (0, 0)) (by (with_reducible repeat (first | refine blk_drewN ?_ _ | refine blk_drew ?_ | refine blk_alloc ?_ _)); refine blk_far ?_ NB294_299.out _; (with_reducible repeat (first | refine blk_drewN ?_ _ | refine blk_drew ?_ | refine blk_alloc ?_ _)); refine blk_far ?_ NB294_299.out _; (with_reducible repeat (first | refine blk_drewN ?_ _ | refine blk_drew ?_ | refine blk_alloc ?_ _)); refine blk_far ?_ NB294_299.out _; (with_reducible repeat (first | refine blk_drewN ?_ _ | refine blk_drew ?_ | refine blk_alloc ?_ _)); exact BK294.out) hb); have n3_ := Aside0.mk (blk_below (g := gb299) (o := .cells #[.string t295, .string t296, .string t297] 53 (0, 0)) (by (with_reducible repeat (first | refine blk_drewN ?_ _ | refine blk_drew ?_ | refine blk_alloc ?_ _)); refine blk_put (cs := #[.string t295, .string t296, .string (⟨#[]⟩ : ByteArray)]) ?_ 2 _ rfl; (with_reducible repeat (first | refine blk_drewN ?_ _ | refine blk_drew ?_ | refine blk_alloc ?_ _)); refine blk_put (cs := #[.string t295, .string (⟨#[]⟩ : ByteArray), .string (⟨#[]⟩ : ByteArray)]) ?_ 1 _ rfl; (with_reducible repeat (first | refine blk_drewN ?_ _ | refine blk_drew ?_ | refine blk_alloc ?_ _)); refine blk_put (cs := #[.string (⟨#[]⟩ : ByteArray), .string (⟨#[]⟩ : ByteArray), .string (⟨#[]⟩ : ByteArray)]) ?_ 0 _ rfl; (with_reducible repeat (first | refine blk_drewN ?_ _ | refine blk_drew ?_ | refine blk_alloc ?_ _)); exact BK299.out) hb); have n4_ := Aside0.mk (below_step bwS hb); clear HO291; clear BK294; clear BK299; clear HB; have HO291 := n0_; have HO302 := n1_; have BK294 := n2_; have BK299 := n3_; have HB := n4_; clear n0_ n1_ n2_ n3_ n4_; (try clear hb); (try clear hb2); (try clear hk); (try clear hi); (try clear ho0); have hcz22_0 : w21.cell? ⟨gb299, 0, none⟩ = some (.string t295) := (blk_cell BK299.out 0).trans rfl; have hcz22_1 : w21.cell? ⟨gb299, 1, none⟩ = some (.string t296) := (blk_cell BK299.out 1).trans rfl; have hcz22_2 : w21.cell? ⟨gb299, 2, none⟩ = some (.string t297) := (blk_cell BK299.out 2).trans rfl; have hfz22_0 := blk_frozen BK299.out 0; have hfz22_1 := blk_frozen BK299.out 1; have hfz22_2 := blk_frozen BK299.out 2; obtain ⟨Ao23, co23, eo23⟩ := Kd.R_slice HO302.out; subst eo23; have p303 : 0 ≤ (0 : Int) := (by omega); have q303 : 0 < (t300.length : Int) := od; obtain ⟨ad303, e303, hx303_0⟩ := Kd.at_string (Kd.R_reads' HO302.out).2.2 0 p303 q303; cases e303; have qi303 : (0 < t300.length) = True := eq_true (by omega); (try rw [show ((0 : Int)).toNat = 0 from rfl] at hx303_0); (try rw [Addr.add_zero'] at hx303_0); replace p303 := eq_true p303; replace q303 := eq_true q303; have hcz24_0 : w21.cell? ⟨gb294, 0, none⟩ = some (.slice Ao14 t289.length co14) := (blk_cell BK294.out 0).trans rfl; have hcz24_1 : w21.cell? ⟨gb294, 1, none⟩ = some (.string t292) := (blk_cell BK294.out 1).trans rfl; have hfz24_0 := blk_frozen BK294.out 0; have hfz24_1 := blk_frozen BK294.out 1) | (go_at_call 13; (with_reducible refine (msg_Message_Text.calls _ _ t289 t292 t304 _ ?side1 ?side2 A11.out).mono ?_); (case side1 => repeat (first | exact (Kd.R_reads' HO291.out).2.2 | (with_reducible refine Kd.C_alloc ?_ _) | (with_reducible refine Kd.C_drewN ?_ _) | (with_reducible refine Kd.C_drew ?_))); (case side2 => exact (Kd.R_reads' HO291.out).2.1); rintro e w25 ⟨rfl, hb⟩; have n0_ := Aside0.mk (Kd.R_below (by (with_reducible repeat (first | apply Kd.R_alloc | apply Kd.R_drewN | apply Kd.R_drew)); exact HO291.out) hb); have n1_ := Aside0.mk (Kd.R_below (by (with_reducible repeat (first | apply Kd.R_alloc | apply Kd.R_drewN | apply Kd.R_drew)); exact HO302.out) hb); have n2_ := Aside0.mk (blk_below (g := gb294) (o := .cells #[.slice Ao14 t289.length co14, .string t292] 25 (0, 0)) bk hb); have n3_ := Aside0.mk (blk_below (g := gb299) (o := .cells #[.string t295, .string t296, .string t297] 53 (0, 0)) bk hb); have n4_ := Aside0.mk (below_step bwS hb); clear HO291; clear HO302; clear BK294; clear BK299; clear HB; have HO291 := n0_; have HO302 := n1_; have BK294 := n2_; have BK299 := n3_; have HB := n4_; clear n0_ n1_ n2_ n3_ n4_; (try clear hb); (try clear hb2); (try clear hk); (try clear hi)))
        go_ret
        exact ⟨by first | rfl | (simp [errW_none, errW_some] <;> rfl) | (simp [*, errW_none, errW_some] <;> rfl), bwS⟩
       ·rw [if_neg c10] at H
        have c10b0 : ((rdOf ByteArray.empty t300 0).toList == ([104, 105] : List UInt8)) = false := beq_eq_false_iff_ne.mpr c10
        have c10b1 : ((rdOf ByteArray.empty t300 0).toList != ([104, 105] : List UInt8)) = true := bne_iff_ne.mpr c10
        obtain rfl := Option.some.inj H
        go_enter Tryz.func9, Tryz.ntmps9
        go_wp2_with (first | ((with_reducible refine gate_callee (f := 10) rfl ?_); refine goesL_ (some 7) rfl rfl Tryz.func10 (by kernel_rfl) rfl #[.string (⟨#[70, 114, 111, 109, 58, 32, 65, 110, 110, 32, 60, 97, 64, 98, 62, 13, 10, 13, 10, 104, 105, 13, 10]⟩ : ByteArray)] rfl am ?_; (with_reducible refine (msg_Parse.calls (hG := by first | exact hG | exact Glob.below hG (by first | exact HB.out | (repeat (first | (with_reducible first | exact HB.out | apply below_alloc | apply pw_below_drewN | apply below_drew1 | refine below_set ?_ GE294.out | refine below_set ?_ GE299.out) | exact HB.out))) | exact Glob.drawn hG (by repeat (first | exact Drawn0.refl _ | apply Drawn0.step))) k (⟨#[70, 114, 111, 109, 58, 32, 65, 110, 110, 32, 60, 97, 64, 98, 62, 13, 10, 13, 10, 104, 105, 13, 10]⟩ : ByteArray) t289 t292 t293 _ A1.out).mono ?_); rintro e w26 ⟨v290, rfl, ho0, hb⟩; refine ⟨_, rfl, ?_⟩; have n0_ := Aside0.mk (Kd.R_lower ho0 (below_size bw)); have n1_ := Aside0.mk (below_step bw hb); clear HB; have HO291 := n0_; have HB := n1_; clear n0_ n1_; (try clear hb); (try clear hb2); (try clear hk); (try clear hi); (try clear ho0)) | ((with_reducible refine gate_dst (N := 1) rfl ?_); (try (refine gate_guard (by rfl) ?_; dsimp only)); refine box_event ?hg (N := 1) ?hd (cs := #[.slice none 0 0, .string (⟨#[]⟩ : ByteArray)]) (t := 25) ?hr ?_; (case hd => rfl); (case hg => rfl); (case hr => first | (go_simp; done) | (go_simp; rfl)); intro gb294 hg w27 hbox hb; have n0_ := Aside0.mk (Kd.R_below (by (with_reducible repeat (first | apply Kd.R_alloc | apply Kd.R_drewN | apply Kd.R_drew)); exact HO291.out) hb); have n1_ := Aside0.mk (below_step bw hb); have n2_ := Aside0.mk (hbox); have n3_ := Aside0.mk ((by rw [hg]; exact (below_size bw) : w.heap.size ≤ gb294)); have n4_ := Aside0.mk ((by rw [hg]; exact (below_size bw) : w.heap.size ≤ gb294)); clear HO291; clear HB; have HO291 := n0_; have HB := n1_; have BK294 := n2_; have GW294 := n3_; have GE294 := n4_; clear n0_ n1_ n2_ n3_ n4_; clear hb hbox hg; obtain ⟨Ao28, co28, eo28⟩ := Kd.R_slice HO291.out; subst eo28; have hcz29_0 : w27.cell? ⟨gb294, 0, none⟩ = some (.slice none 0 0) := (blk_cell BK294.out 0).trans rfl; have hcz29_1 : w27.cell? ⟨gb294, 1, none⟩ = some (.string (⟨#[]⟩ : ByteArray)) := (blk_cell BK294.out 1).trans rfl; have hfz29_0 := blk_frozen BK294.out 0; have hfz29_1 := blk_frozen BK294.out 1) | ((with_reducible refine gate_callee (f := 22) rfl ?_); refine goesL_ (some 12) rfl rfl Tryz.func22 (by kernel_rfl) rfl #[.agg #[.slice Ao28 t289.length co28, .string t292]] rfl am ?_; (with_reducible refine (msg_Message_From.calls (hG := by first | exact hG | exact Glob.below hG (by first | exact HB.out | (repeat (first | (with_reducible first | exact HB.out | apply below_alloc | apply pw_below_drewN | apply below_drew1 | refine below_set ?_ GE294.out | refine below_set ?_ GE299.out) | exact HB.out))) | exact Glob.drawn hG (by repeat (first | exact Drawn0.refl _ | apply Drawn0.step))) k _ _ t289 t292 t295 t296 t297 t298 _ ?side1 ?side2 A2.out).mono ?_); (case side1 => refine (Kd.R_reads' (e := 46) (base := w.heap.size) (ok := fun k_ => True) (n := t289.length) (c := co28) ?_).2.2; exact (by (with_reducible repeat (first | apply Kd.R_alloc | apply Kd.R_drewN | apply Kd.R_drew)); exact (Kd.R_mono (Kd.R_far (p := ⟨gb294, 1, none⟩) (Kd.R_far (p := ⟨gb294, 0, none⟩) (Kd.R_types HO291.out BK294.out (by decide)) (fun _ hk => hk.2) (.slice Ao28 t289.length co28)) (fun _ hk => hk.2) (.string t292)) (fun _ h_ => h_.1)))); (case side2 => exact (Kd.R_reads' HO291.out).2.1); rintro e w30 ⟨rfl, hb⟩; refine ⟨_, rfl, ?_⟩; have n0_ := Aside0.mk (Kd.R_below (by (with_reducible repeat (first | apply Kd.R_alloc | apply Kd.R_drewN | apply Kd.R_drew)); exact (Kd.R_mono (Kd.R_far (p := ⟨gb294, 1, none⟩) (Kd.R_far (p := ⟨gb294, 0, none⟩) (Kd.R_types HO291.out BK294.out (by decide)) (fun _ hk => hk.2) (.slice Ao28 t289.length co28)) (fun _ hk => hk.2) (.string t292)) (fun _ h_ => h_.1))) hb); have n1_ := Aside0.mk (blk_below (g := gb294) (o := .cells #[.slice Ao28 t289.length co28, .string t292] 25 (0, 0)) (by (with_reducible repeat (first | refine blk_drewN ?_ _ | refine blk_drew ?_ | refine blk_alloc ?_ _)); refine blk_put (cs := #[.slice Ao28 t289.length co28, .string (⟨#[]⟩ : ByteArray)]) ?_ 1 _ rfl; (with_reducible repeat (first | refine blk_drewN ?_ _ | refine blk_drew ?_ | refine blk_alloc ?_ _)); refine blk_put (cs := #[.slice none 0 0, .string (⟨#[]⟩ : ByteArray)]) ?_ 0 _ rfl; (with_reducible repeat (first | refine blk_drewN ?_ _ | refine blk_drew ?_ | refine blk_alloc ?_ _)); exact BK294.out) hb); have n2_ := Aside0.mk (below_step bwS hb); clear HO291; clear BK294; clear HB; have HO291 := n0_; have BK294 := n1_; have HB := n2_; clear n0_ n1_ n2_; (try clear hb); (try clear hb2); (try clear hk); (try clear hi)) | ((with_reducible refine gate_dst (N := 3) rfl ?_); (try (refine gate_guard (by rfl) ?_; dsimp only)); refine box_event ?hg (N := 3) ?hd (cs := #[.string (⟨#[]⟩ : ByteArray), .string (⟨#[]⟩ : ByteArray), .string (⟨#[]⟩ : ByteArray)]) (t := 53) ?hr ?_; (case hd => rfl); (case hg => rfl); (case hr => first | (go_simp; done) | (go_simp; rfl)); intro gb299 hg w31 hbox hb; have n0_ := Aside0.mk (Kd.R_below (by (with_reducible repeat (first | apply Kd.R_alloc | apply Kd.R_drewN | apply Kd.R_drew)); exact HO291.out) hb); have n1_ := Aside0.mk (blk_below (g := gb294) (o := .cells #[.slice Ao28 t289.length co28, .string t292] 25 (0, 0)) bk hb); have n2_ := Aside0.mk (below_step bwS hb); have n3_ := Aside0.mk (hbox); have n4_ := Aside0.mk ((by rw [hg]; exact (below_size bwS) : w.heap.size ≤ gb299)); have n5_ := Aside0.mk ((by rw [hg]; exact (below_size bwS) : w.heap.size ≤ gb299)); have n6_ := Aside0.mk ((by rw [hg]; exact Nat.ne_of_lt (blk_lt (g := gb294) (o := .cells #[.slice Ao28 t289.length co28, .string t292] 25 (0, 0)) bk) : gb294 ≠ gb299)); have n7_ := Aside0.mk ((by rw [hg]; exact Nat.ne_of_gt (blk_lt (g := gb294) (o := .cells #[.slice Ao28 t289.length co28, .string t292] 25 (0, 0)) bk) : gb299 ≠ gb294)); clear HO291; clear BK294; clear HB; have HO291 := n0_; have BK294 := n1_; have HB := n2_; have BK299 := n3_; have GW299 := n4_; have GE299 := n5_; have NB294_299 := n6_; have NB299_294 := n7_; clear n0_ n1_ n2_ n3_ n4_ n5_ n6_ n7_; clear hb hbox hg; have hnb32 := NB299_294.out; have hnc32 := NB294_299.out; have hcz33_0 : w31.cell? ⟨gb299, 0, none⟩ = some (.string (⟨#[]⟩ : ByteArray)) := (blk_cell BK299.out 0).trans rfl; have hcz33_1 : w31.cell? ⟨gb299, 1, none⟩ = some (.string (⟨#[]⟩ : ByteArray)) := (blk_cell BK299.out 1).trans rfl; have hcz33_2 : w31.cell? ⟨gb299, 2, none⟩ = some (.string (⟨#[]⟩ : ByteArray)) := (blk_cell BK299.out 2).trans rfl; have hfz33_0 := blk_frozen BK299.out 0; have hfz33_1 := blk_frozen BK299.out 1; have hfz33_2 := blk_frozen BK299.out 2; have hcz34_0 : w31.cell? ⟨gb294, 0, none⟩ = some (.slice Ao28 t289.length co28) := (blk_cell BK294.out 0).trans rfl; have hcz34_1 : w31.cell? ⟨gb294, 1, none⟩ = some (.string t292) := (blk_cell BK294.out 1).trans rfl; have hfz34_0 := blk_frozen BK294.out 0; have hfz34_1 := blk_frozen BK294.out 1) | ((with_reducible refine gate_callee (f := 16) rfl ?_); refine goesL_ (some 16) rfl rfl Tryz.func16 (by kernel_rfl) rfl #[.agg #[.slice Ao28 t289.length co28, .string t292]] rfl am ?_; (with_reducible refine (msg_Message_Lines.calls (hG := by first | exact hG | exact Glob.below hG (by first | exact HB.out | (repeat (first | (with_reducible first | exact HB.out | apply below_alloc | apply pw_below_drewN | apply below_drew1 | refine below_set ?_ GE294.out | refine below_set ?_ GE299.out) | exact HB.out))) | exact Glob.drawn hG (by repeat (first | exact Drawn0.refl _ | apply Drawn0.step))) k _ _ t289 t292 t300 _ ?side1 ?side2 A3.out).mono ?_); (case side1 => refine (Kd.R_reads' (e := 46) (base := w.heap.size) (ok := fun k_ => True) (n := t289.length) (c := co28) ?_).2.2; exact (by (with_reducible repeat (first | apply Kd.R_alloc | apply Kd.R_drewN | apply Kd.R_drew)); exact (Kd.R_mono (Kd.R_far (p := ⟨gb299, 2, none⟩) (Kd.R_far (p := ⟨gb299, 1, none⟩) (Kd.R_far (p := ⟨gb299, 0, none⟩) (Kd.R_types HO291.out BK299.out (by decide)) (fun _ hk => hk.2) (.string t295)) (fun _ hk => hk.2) (.string t296)) (fun _ hk => hk.2) (.string t297)) (fun _ h_ => h_.1)))); (case side2 => exact (Kd.R_reads' HO291.out).2.1); rintro e w35 ⟨v301, rfl, ho0, hb⟩; refine ⟨_, rfl, ?_⟩; have n0_ := Aside0.mk (Kd.R_below (by (with_reducible repeat (first | apply Kd.R_alloc | apply Kd.R_drewN | apply Kd.R_drew)); exact (Kd.R_mono (Kd.R_far (p := ⟨gb299, 2, none⟩) (Kd.R_far (p := ⟨gb299, 1, none⟩) (Kd.R_far (p := ⟨gb299, 0, none⟩) (Kd.R_types HO291.out BK299.out (by decide)) (fun _ hk => hk.2) (.string t295)) (fun _ hk => hk.2) (.string t296)) (fun _ hk => hk.2) (.string t297)) (fun _ h_ => h_.1))) hb); have n1_ := Aside0.mk (Kd.R_lower ho0 (below_size bwS)); have n2_ := Aside0.mk (blk_below (g := gb294) (o := .cells #[.slice Ao28 t289.length co28, .string t292] 25 (0, 0)) (by (with_reducible repeat (first | refine blk_drewN ?_ _ | refine blk_drew ?_ | refine blk_alloc ?_ _)); refine blk_far ?_ NB294_299.out _; (with_reducible repeat (first | refine blk_drewN ?_ _ | refine blk_drew ?_ | refine blk_alloc ?_ _)); refine blk_far ?_ NB294_299.out _; (with_reducible repeat (first | refine blk_drewN ?_ _ | refine blk_drew ?_ | refine blk_alloc ?_ _)); refine blk_far ?_ NB294_299.out _; (with_reducible repeat (first | refine blk_drewN ?_ _ | refine blk_drew ?_ | refine blk_alloc ?_ _)); exact BK294.out) hb); have n3_ := Aside0.mk (blk_below (g := gb299) (o := .cells #[.string t295, .string t296, .string t297] 53 (0, 0)) (by (with_reducible repeat (first | refine blk_drewN ?_ _ | refine blk_drew ?_ | refine blk_alloc ?_ _)); refine blk_put (cs := #[.string t295, .string t296, .string (⟨#[]⟩ : ByteArray)]) ?_ 2 _ rfl; (with_reducible repeat (first | refine blk_drewN ?_ _ | refine blk_drew ?_ | refine blk_alloc ?_ _)); refine blk_put (cs := #[.string t295, .string (⟨#[]⟩ : ByteArray), .string (⟨#[]⟩ : ByteArray)]) ?_ 1 _ rfl; (with_reducible repeat (first | refine blk_drewN ?_ _ | refine blk_drew ?_ | refine blk_alloc ?_ _)); refine blk_put (cs := #[.string (⟨#[]⟩ : ByteArray), .string (⟨#[]⟩ : ByteArray), .string (⟨#[]⟩ : ByteArray)]) ?_ 0 _ rfl; (with_reducible repeat (first | refine blk_drewN ?_ _ | refine blk_drew ?_ | refine blk_alloc ?_ _)); exact BK299.out) hb); have n4_ := Aside0.mk (below_step bwS hb); clear HO291; clear BK294; clear BK299; clear HB; have HO291 := n0_; have HO302 := n1_; have BK294 := n2_; have BK299 := n3_; have HB := n4_; clear n0_ n1_ n2_ n3_ n4_; (try clear hb); (try clear hb2); (try clear hk); (try clear hi); (try clear ho0); have hcz36_0 : w35.cell? ⟨gb299, 0, none⟩ = some (.string t295) := (blk_cell BK299.out 0).trans rfl; have hcz36_1 : w35.cell? ⟨gb299, 1, none⟩ = some (.string t296) := (blk_cell BK299.out 1).trans rfl; have hcz36_2 : w35.cell? ⟨gb299, 2, none⟩ = some (.string t297) := (blk_cell BK299.out 2).trans rfl; have hfz36_0 := blk_frozen BK299.out 0; have hfz36_1 := blk_frozen BK299.out 1; have hfz36_2 := blk_frozen BK299.out 2; obtain ⟨Ao37, co37, eo37⟩ := Kd.R_slice HO302.out; subst eo37; have p303 : 0 ≤ (0 : Int) := (by omega); have q303 : 0 < (t300.length : Int) := od; obtain ⟨ad303, e303, hx303_0⟩ := Kd.at_string (Kd.R_reads' HO302.out).2.2 0 p303 q303; cases e303; have qi303 : (0 < t300.length) = True := eq_true (by omega); (try rw [show ((0 : Int)).toNat = 0 from rfl] at hx303_0); (try rw [Addr.add_zero'] at hx303_0); replace p303 := eq_true p303; replace q303 := eq_true q303))
        go_ret
        exact ⟨by first | rfl | (simp [errW_none, errW_some] <;> rfl) | (simp [*, errW_none, errW_some] <;> rfl), bwS⟩
      ·rw [if_neg c9] at H
       exact absurd H (by simp)
     ·rw [if_neg c8] at H
      have c8b0 : ((t300.length : Int) == 1) = false := beq_eq_false_iff_ne.mpr c8
      have c8b1 : ((t300.length : Int) != 1) = true := bne_iff_ne.mpr c8
      obtain rfl := Option.some.inj H
      go_enter Tryz.func9, Tryz.ntmps9
      go_wp2_with (first | ((with_reducible refine gate_callee (f := 10) rfl ?_); refine goesL_ (some 7) rfl rfl Tryz.func10 (by kernel_rfl) rfl #[.string (⟨#[70, 114, 111, 109, 58, 32, 65, 110, 110, 32, 60, 97, 64, 98, 62, 13, 10, 13, 10, 104, 105, 13, 10]⟩ : ByteArray)] rfl am ?_; (with_reducible refine (msg_Parse.calls (hG := by first | exact hG | exact Glob.below hG (by first | exact HB.out | (repeat (first | (with_reducible first | exact HB.out | apply below_alloc | apply pw_below_drewN | apply below_drew1 | refine below_set ?_ GE294.out | refine below_set ?_ GE299.out) | exact HB.out))) | exact Glob.drawn hG (by repeat (first | exact Drawn0.refl _ | apply Drawn0.step))) k (⟨#[70, 114, 111, 109, 58, 32, 65, 110, 110, 32, 60, 97, 64, 98, 62, 13, 10, 13, 10, 104, 105, 13, 10]⟩ : ByteArray) t289 t292 t293 _ A1.out).mono ?_); rintro e w38 ⟨v290, rfl, ho0, hb⟩; refine ⟨_, rfl, ?_⟩; have n0_ := Aside0.mk (Kd.R_lower ho0 (below_size bw)); have n1_ := Aside0.mk (below_step bw hb); clear HB; have HO291 := n0_; have HB := n1_; clear n0_ n1_; (try clear hb); (try clear hb2); (try clear hk); (try clear hi); (try clear ho0)) | ((with_reducible refine gate_dst (N := 1) rfl ?_); (try (refine gate_guard (by rfl) ?_; dsimp only)); refine box_event ?hg (N := 1) ?hd (cs := #[.slice none 0 0, .string (⟨#[]⟩ : ByteArray)]) (t := 25) ?hr ?_; (case hd => rfl); (case hg => rfl); (case hr => first | (go_simp; done) | (go_simp; rfl)); intro gb294 hg w39 hbox hb; have n0_ := Aside0.mk (Kd.R_below (by (with_reducible repeat (first | apply Kd.R_alloc | apply Kd.R_drewN | apply Kd.R_drew)); exact HO291.out) hb); have n1_ := Aside0.mk (below_step bw hb); have n2_ := Aside0.mk (hbox); have n3_ := Aside0.mk ((by rw [hg]; exact (below_size bw) : w.heap.size ≤ gb294)); have n4_ := Aside0.mk ((by rw [hg]; exact (below_size bw) : w.heap.size ≤ gb294)); clear HO291; clear HB; have HO291 := n0_; have HB := n1_; have BK294 := n2_; have GW294 := n3_; have GE294 := n4_; clear n0_ n1_ n2_ n3_ n4_; clear hb hbox hg; obtain ⟨Ao40, co40, eo40⟩ := Kd.R_slice HO291.out; subst eo40; have hcz41_0 : w39.cell? ⟨gb294, 0, none⟩ = some (.slice none 0 0) := (blk_cell BK294.out 0).trans rfl; have hcz41_1 : w39.cell? ⟨gb294, 1, none⟩ = some (.string (⟨#[]⟩ : ByteArray)) := (blk_cell BK294.out 1).trans rfl; have hfz41_0 := blk_frozen BK294.out 0; have hfz41_1 := blk_frozen BK294.out 1) | ((with_reducible refine gate_callee (f := 22) rfl ?_); refine goesL_ (some 12) rfl rfl Tryz.func22 (by kernel_rfl) rfl #[.agg #[.slice Ao40 t289.length co40, .string t292]] rfl am ?_; (with_reducible refine (msg_Message_From.calls (hG := by first | exact hG | exact Glob.below hG (by first | exact HB.out | (repeat (first | (with_reducible first | exact HB.out | apply below_alloc | apply pw_below_drewN | apply below_drew1 | refine below_set ?_ GE294.out | refine below_set ?_ GE299.out) | exact HB.out))) | exact Glob.drawn hG (by repeat (first | exact Drawn0.refl _ | apply Drawn0.step))) k _ _ t289 t292 t295 t296 t297 t298 _ ?side1 ?side2 A2.out).mono ?_); (case side1 => refine (Kd.R_reads' (e := 46) (base := w.heap.size) (ok := fun k_ => True) (n := t289.length) (c := co40) ?_).2.2; exact (by (with_reducible repeat (first | apply Kd.R_alloc | apply Kd.R_drewN | apply Kd.R_drew)); exact (Kd.R_mono (Kd.R_far (p := ⟨gb294, 1, none⟩) (Kd.R_far (p := ⟨gb294, 0, none⟩) (Kd.R_types HO291.out BK294.out (by decide)) (fun _ hk => hk.2) (.slice Ao40 t289.length co40)) (fun _ hk => hk.2) (.string t292)) (fun _ h_ => h_.1)))); (case side2 => exact (Kd.R_reads' HO291.out).2.1); rintro e w42 ⟨rfl, hb⟩; refine ⟨_, rfl, ?_⟩; have n0_ := Aside0.mk (Kd.R_below (by (with_reducible repeat (first | apply Kd.R_alloc | apply Kd.R_drewN | apply Kd.R_drew)); exact (Kd.R_mono (Kd.R_far (p := ⟨gb294, 1, none⟩) (Kd.R_far (p := ⟨gb294, 0, none⟩) (Kd.R_types HO291.out BK294.out (by decide)) (fun _ hk => hk.2) (.slice Ao40 t289.length co40)) (fun _ hk => hk.2) (.string t292)) (fun _ h_ => h_.1))) hb); have n1_ := Aside0.mk (blk_below (g := gb294) (o := .cells #[.slice Ao40 t289.length co40, .string t292] 25 (0, 0)) (by (with_reducible repeat (first | refine blk_drewN ?_ _ | refine blk_drew ?_ | refine blk_alloc ?_ _)); refine blk_put (cs := #[.slice Ao40 t289.length co40, .string (⟨#[]⟩ : ByteArray)]) ?_ 1 _ rfl; (with_reducible repeat (first | refine blk_drewN ?_ _ | refine blk_drew ?_ | refine blk_alloc ?_ _)); refine blk_put (cs := #[.slice none 0 0, .string (⟨#[]⟩ : ByteArray)]) ?_ 0 _ rfl; (with_reducible repeat (first | refine blk_drewN ?_ _ | refine blk_drew ?_ | refine blk_alloc ?_ _)); exact BK294.out) hb); have n2_ := Aside0.mk (below_step bwS hb); clear HO291; clear BK294; clear HB; have HO291 := n0_; have BK294 := n1_; have HB := n2_; clear n0_ n1_ n2_; (try clear hb); (try clear hb2); (try clear hk); (try clear hi)) | ((with_reducible refine gate_dst (N := 3) rfl ?_); (try (refine gate_guard (by rfl) ?_; dsimp only)); refine box_event ?hg (N := 3) ?hd (cs := #[.string (⟨#[]⟩ : ByteArray), .string (⟨#[]⟩ : ByteArray), .string (⟨#[]⟩ : ByteArray)]) (t := 53) ?hr ?_; (case hd => rfl); (case hg => rfl); (case hr => first | (go_simp; done) | (go_simp; rfl)); intro gb299 hg w43 hbox hb; have n0_ := Aside0.mk (Kd.R_below (by (with_reducible repeat (first | apply Kd.R_alloc | apply Kd.R_drewN | apply Kd.R_drew)); exact HO291.out) hb); have n1_ := Aside0.mk (blk_below (g := gb294) (o := .cells #[.slice Ao40 t289.length co40, .string t292] 25 (0, 0)) bk hb); have n2_ := Aside0.mk (below_step bwS hb); have n3_ := Aside0.mk (hbox); have n4_ := Aside0.mk ((by rw [hg]; exact (below_size bwS) : w.heap.size ≤ gb299)); have n5_ := Aside0.mk ((by rw [hg]; exact (below_size bwS) : w.heap.size ≤ gb299)); have n6_ := Aside0.mk ((by rw [hg]; exact Nat.ne_of_lt (blk_lt (g := gb294) (o := .cells #[.slice Ao40 t289.length co40, .string t292] 25 (0, 0)) bk) : gb294 ≠ gb299)); have n7_ := Aside0.mk ((by rw [hg]; exact Nat.ne_of_gt (blk_lt (g := gb294) (o := .cells #[.slice Ao40 t289.length co40, .string t292] 25 (0, 0)) bk) : gb299 ≠ gb294)); clear HO291; clear BK294; clear HB; have HO291 := n0_; have BK294 := n1_; have HB := n2_; have BK299 := n3_; have GW299 := n4_; have GE299 := n5_; have NB294_299 := n6_; have NB299_294 := n7_; clear n0_ n1_ n2_ n3_ n4_ n5_ n6_ n7_; clear hb hbox hg; have hnb44 := NB299_294.out; have hnc44 := NB294_299.out; have hcz45_0 : w43.cell? ⟨gb299, 0, none⟩ = some (.string (⟨#[]⟩ : ByteArray)) := (blk_cell BK299.out 0).trans rfl; have hcz45_1 : w43.cell? ⟨gb299, 1, none⟩ = some (.string (⟨#[]⟩ : ByteArray)) := (blk_cell BK299.out 1).trans rfl; have hcz45_2 : w43.cell? ⟨gb299, 2, none⟩ = some (.string (⟨#[]⟩ : ByteArray)) := (blk_cell BK299.out 2).trans rfl; have hfz45_0 := blk_frozen BK299.out 0; have hfz45_1 := blk_frozen BK299.out 1; have hfz45_2 := blk_frozen BK299.out 2; have hcz46_0 : w43.cell? ⟨gb294, 0, none⟩ = some (.slice Ao40 t289.length co40) := (blk_cell BK294.out 0).trans rfl; have hcz46_1 : w43.cell? ⟨gb294, 1, none⟩ = some (.string t292) := (blk_cell BK294.out 1).trans rfl; have hfz46_0 := blk_frozen BK294.out 0; have hfz46_1 := blk_frozen BK294.out 1) | ((with_reducible refine gate_callee (f := 16) rfl ?_); refine goesL_ (some 16) rfl rfl Tryz.func16 (by kernel_rfl) rfl #[.agg #[.slice Ao40 t289.length co40, .string t292]] rfl am ?_; (with_reducible refine (msg_Message_Lines.calls (hG := by first | exact hG | exact Glob.below hG (by first | exact HB.out | (repeat (first | (with_reducible first | exact HB.out | apply below_alloc | apply pw_below_drewN | apply below_drew1 | refine below_set ?_ GE294.out | refine below_set ?_ GE299.out) | exact HB.out))) | exact Glob.drawn hG (by repeat (first | exact Drawn0.refl _ | apply Drawn0.step))) k _ _ t289 t292 t300 _ ?side1 ?side2 A3.out).mono ?_); (case side1 => refine (Kd.R_reads' (e := 46) (base := w.heap.size) (ok := fun k_ => True) (n := t289.length) (c := co40) ?_).2.2; exact (by (with_reducible repeat (first | apply Kd.R_alloc | apply Kd.R_drewN | apply Kd.R_drew)); exact (Kd.R_mono (Kd.R_far (p := ⟨gb299, 2, none⟩) (Kd.R_far (p := ⟨gb299, 1, none⟩) (Kd.R_far (p := ⟨gb299, 0, none⟩) (Kd.R_types HO291.out BK299.out (by decide)) (fun _ hk => hk.2) (.string t295)) (fun _ hk => hk.2) (.string t296)) (fun _ hk => hk.2) (.string t297)) (fun _ h_ => h_.1)))); (case side2 => exact (Kd.R_reads' HO291.out).2.1); rintro e w47 ⟨v301, rfl, ho0, hb⟩; refine ⟨_, rfl, ?_⟩; have n0_ := Aside0.mk (Kd.R_below (by (with_reducible repeat (first | apply Kd.R_alloc | apply Kd.R_drewN | apply Kd.R_drew)); exact (Kd.R_mono (Kd.R_far (p := ⟨gb299, 2, none⟩) (Kd.R_far (p := ⟨gb299, 1, none⟩) (Kd.R_far (p := ⟨gb299, 0, none⟩) (Kd.R_types HO291.out BK299.out (by decide)) (fun _ hk => hk.2) (.string t295)) (fun _ hk => hk.2) (.string t296)) (fun _ hk => hk.2) (.string t297)) (fun _ h_ => h_.1))) hb); have n1_ := Aside0.mk (Kd.R_lower ho0 (below_size bwS)); have n2_ := Aside0.mk (blk_below (g := gb294) (o := .cells #[.slice Ao40 t289.length co40, .string t292] 25 (0, 0)) (by (with_reducible repeat (first | refine blk_drewN ?_ _ | refine blk_drew ?_ | refine blk_alloc ?_ _)); refine blk_far ?_ NB294_299.out _; (with_reducible repeat (first | refine blk_drewN ?_ _ | refine blk_drew ?_ | refine blk_alloc ?_ _)); refine blk_far ?_ NB294_299.out _; (with_reducible repeat (first | refine blk_drewN ?_ _ | refine blk_drew ?_ | refine blk_alloc ?_ _)); refine blk_far ?_ NB294_299.out _; (with_reducible repeat (first | refine blk_drewN ?_ _ | refine blk_drew ?_ | refine blk_alloc ?_ _)); exact BK294.out) hb); have n3_ := Aside0.mk (blk_below (g := gb299) (o := .cells #[.string t295, .string t296, .string t297] 53 (0, 0)) (by (with_reducible repeat (first | refine blk_drewN ?_ _ | refine blk_drew ?_ | refine blk_alloc ?_ _)); refine blk_put (cs := #[.string t295, .string t296, .string (⟨#[]⟩ : ByteArray)]) ?_ 2 _ rfl; (with_reducible repeat (first | refine blk_drewN ?_ _ | refine blk_drew ?_ | refine blk_alloc ?_ _)); refine blk_put (cs := #[.string t295, .string (⟨#[]⟩ : ByteArray), .string (⟨#[]⟩ : ByteArray)]) ?_ 1 _ rfl; (with_reducible repeat (first | refine blk_drewN ?_ _ | refine blk_drew ?_ | refine blk_alloc ?_ _)); refine blk_put (cs := #[.string (⟨#[]⟩ : ByteArray), .string (⟨#[]⟩ : ByteArray), .string (⟨#[]⟩ : ByteArray)]) ?_ 0 _ rfl; (with_reducible repeat (first | refine blk_drewN ?_ _ | refine blk_drew ?_ | refine blk_alloc ?_ _)); exact BK299.out) hb); have n4_ := Aside0.mk (below_step bwS hb); clear HO291; clear BK294; clear BK299; clear HB; have HO291 := n0_; have HO302 := n1_; have BK294 := n2_; have BK299 := n3_; have HB := n4_; clear n0_ n1_ n2_ n3_ n4_; (try clear hb); (try clear hb2); (try clear hk); (try clear hi); (try clear ho0); have hcz48_0 : w47.cell? ⟨gb299, 0, none⟩ = some (.string t295) := (blk_cell BK299.out 0).trans rfl; have hcz48_1 : w47.cell? ⟨gb299, 1, none⟩ = some (.string t296) := (blk_cell BK299.out 1).trans rfl; have hcz48_2 : w47.cell? ⟨gb299, 2, none⟩ = some (.string t297) := (blk_cell BK299.out 2).trans rfl; have hfz48_0 := blk_frozen BK299.out 0; have hfz48_1 := blk_frozen BK299.out 1; have hfz48_2 := blk_frozen BK299.out 2; obtain ⟨Ao49, co49, eo49⟩ := Kd.R_slice HO302.out; subst eo49))
      go_ret
      exact ⟨by first | rfl | (simp [errW_none, errW_some] <;> rfl) | (simp [*, errW_none, errW_some] <;> rfl), bwS⟩
    ·rw [if_neg c7] at H
     have c7b0 : (t296.toList == ([97] : List UInt8)) = false := beq_eq_false_iff_ne.mpr c7
     have c7b1 : (t296.toList != ([97] : List UInt8)) = true := bne_iff_ne.mpr c7
     obtain rfl := Option.some.inj H
     go_enter Tryz.func9, Tryz.ntmps9
     go_wp2_with (first | ((with_reducible refine gate_callee (f := 10) rfl ?_); refine goesL_ (some 7) rfl rfl Tryz.func10 (by kernel_rfl) rfl #[.string (⟨#[70, 114, 111, 109, 58, 32, 65, 110, 110, 32, 60, 97, 64, 98, 62, 13, 10, 13, 10, 104, 105, 13, 10]⟩ : ByteArray)] rfl am ?_; (with_reducible refine (msg_Parse.calls (hG := by first | exact hG | exact Glob.below hG (by first | exact HB.out | (repeat (first | (with_reducible first | exact HB.out | apply below_alloc | apply pw_below_drewN | apply below_drew1 | refine below_set ?_ GE294.out | refine below_set ?_ GE299.out) | exact HB.out))) | exact Glob.drawn hG (by repeat (first | exact Drawn0.refl _ | apply Drawn0.step))) k (⟨#[70, 114, 111, 109, 58, 32, 65, 110, 110, 32, 60, 97, 64, 98, 62, 13, 10, 13, 10, 104, 105, 13, 10]⟩ : ByteArray) t289 t292 t293 _ A1.out).mono ?_); rintro e w50 ⟨v290, rfl, ho0, hb⟩; refine ⟨_, rfl, ?_⟩; have n0_ := Aside0.mk (Kd.R_lower ho0 (below_size bw)); have n1_ := Aside0.mk (below_step bw hb); clear HB; have HO291 := n0_; have HB := n1_; clear n0_ n1_; (try clear hb); (try clear hb2); (try clear hk); (try clear hi); (try clear ho0)) | ((with_reducible refine gate_dst (N := 1) rfl ?_); (try (refine gate_guard (by rfl) ?_; dsimp only)); refine box_event ?hg (N := 1) ?hd (cs := #[.slice none 0 0, .string (⟨#[]⟩ : ByteArray)]) (t := 25) ?hr ?_; (case hd => rfl); (case hg => rfl); (case hr => first | (go_simp; done) | (go_simp; rfl)); intro gb294 hg w51 hbox hb; have n0_ := Aside0.mk (Kd.R_below (by (with_reducible repeat (first | apply Kd.R_alloc | apply Kd.R_drewN | apply Kd.R_drew)); exact HO291.out) hb); have n1_ := Aside0.mk (below_step bw hb); have n2_ := Aside0.mk (hbox); have n3_ := Aside0.mk ((by rw [hg]; exact (below_size bw) : w.heap.size ≤ gb294)); have n4_ := Aside0.mk ((by rw [hg]; exact (below_size bw) : w.heap.size ≤ gb294)); clear HO291; clear HB; have HO291 := n0_; have HB := n1_; have BK294 := n2_; have GW294 := n3_; have GE294 := n4_; clear n0_ n1_ n2_ n3_ n4_; clear hb hbox hg; obtain ⟨Ao52, co52, eo52⟩ := Kd.R_slice HO291.out; subst eo52; have hcz53_0 : w51.cell? ⟨gb294, 0, none⟩ = some (.slice none 0 0) := (blk_cell BK294.out 0).trans rfl; have hcz53_1 : w51.cell? ⟨gb294, 1, none⟩ = some (.string (⟨#[]⟩ : ByteArray)) := (blk_cell BK294.out 1).trans rfl; have hfz53_0 := blk_frozen BK294.out 0; have hfz53_1 := blk_frozen BK294.out 1) | ((with_reducible refine gate_callee (f := 22) rfl ?_); refine goesL_ (some 12) rfl rfl Tryz.func22 (by kernel_rfl) rfl #[.agg #[.slice Ao52 t289.length co52, .string t292]] rfl am ?_; (with_reducible refine (msg_Message_From.calls (hG := by first | exact hG | exact Glob.below hG (by first | exact HB.out | (repeat (first | (with_reducible first | exact HB.out | apply below_alloc | apply pw_below_drewN | apply below_drew1 | refine below_set ?_ GE294.out | refine below_set ?_ GE299.out) | exact HB.out))) | exact Glob.drawn hG (by repeat (first | exact Drawn0.refl _ | apply Drawn0.step))) k _ _ t289 t292 t295 t296 t297 t298 _ ?side1 ?side2 A2.out).mono ?_); (case side1 => refine (Kd.R_reads' (e := 46) (base := w.heap.size) (ok := fun k_ => True) (n := t289.length) (c := co52) ?_).2.2; exact (by (with_reducible repeat (first | apply Kd.R_alloc | apply Kd.R_drewN | apply Kd.R_drew)); exact (Kd.R_mono (Kd.R_far (p := ⟨gb294, 1, none⟩) (Kd.R_far (p := ⟨gb294, 0, none⟩) (Kd.R_types HO291.out BK294.out (by decide)) (fun _ hk => hk.2) (.slice Ao52 t289.length co52)) (fun _ hk => hk.2) (.string t292)) (fun _ h_ => h_.1)))); (case side2 => exact (Kd.R_reads' HO291.out).2.1); rintro e w54 ⟨rfl, hb⟩; refine ⟨_, rfl, ?_⟩; have n0_ := Aside0.mk (Kd.R_below (by (with_reducible repeat (first | apply Kd.R_alloc | apply Kd.R_drewN | apply Kd.R_drew)); exact (Kd.R_mono (Kd.R_far (p := ⟨gb294, 1, none⟩) (Kd.R_far (p := ⟨gb294, 0, none⟩) (Kd.R_types HO291.out BK294.out (by decide)) (fun _ hk => hk.2) (.slice Ao52 t289.length co52)) (fun _ hk => hk.2) (.string t292)) (fun _ h_ => h_.1))) hb); have n1_ := Aside0.mk (blk_below (g := gb294) (o := .cells #[.slice Ao52 t289.length co52, .string t292] 25 (0, 0)) (by (with_reducible repeat (first | refine blk_drewN ?_ _ | refine blk_drew ?_ | refine blk_alloc ?_ _)); refine blk_put (cs := #[.slice Ao52 t289.length co52, .string (⟨#[]⟩ : ByteArray)]) ?_ 1 _ rfl; (with_reducible repeat (first | refine blk_drewN ?_ _ | refine blk_drew ?_ | refine blk_alloc ?_ _)); refine blk_put (cs := #[.slice none 0 0, .string (⟨#[]⟩ : ByteArray)]) ?_ 0 _ rfl; (with_reducible repeat (first | refine blk_drewN ?_ _ | refine blk_drew ?_ | refine blk_alloc ?_ _)); exact BK294.out) hb); have n2_ := Aside0.mk (below_step bwS hb); clear HO291; clear BK294; clear HB; have HO291 := n0_; have BK294 := n1_; have HB := n2_; clear n0_ n1_ n2_; (try clear hb); (try clear hb2); (try clear hk); (try clear hi)) | ((with_reducible refine gate_dst (N := 3) rfl ?_); (try (refine gate_guard (by rfl) ?_; dsimp only)); refine box_event ?hg (N := 3) ?hd (cs := #[.string (⟨#[]⟩ : ByteArray), .string (⟨#[]⟩ : ByteArray), .string (⟨#[]⟩ : ByteArray)]) (t := 53) ?hr ?_; (case hd => rfl); (case hg => rfl); (case hr => first | (go_simp; done) | (go_simp; rfl)); intro gb299 hg w55 hbox hb; have n0_ := Aside0.mk (Kd.R_below (by (with_reducible repeat (first | apply Kd.R_alloc | apply Kd.R_drewN | apply Kd.R_drew)); exact HO291.out) hb); have n1_ := Aside0.mk (blk_below (g := gb294) (o := .cells #[.slice Ao52 t289.length co52, .string t292] 25 (0, 0)) bk hb); have n2_ := Aside0.mk (below_step bwS hb); have n3_ := Aside0.mk (hbox); have n4_ := Aside0.mk ((by rw [hg]; exact (below_size bwS) : w.heap.size ≤ gb299)); have n5_ := Aside0.mk ((by rw [hg]; exact (below_size bwS) : w.heap.size ≤ gb299)); have n6_ := Aside0.mk ((by rw [hg]; exact Nat.ne_of_lt (blk_lt (g := gb294) (o := .cells #[.slice Ao52 t289.length co52, .string t292] 25 (0, 0)) bk) : gb294 ≠ gb299)); have n7_ := Aside0.mk ((by rw [hg]; exact Nat.ne_of_gt (blk_lt (g := gb294) (o := .cells #[.slice Ao52 t289.length co52, .string t292] 25 (0, 0)) bk) : gb299 ≠ gb294)); clear HO291; clear BK294; clear HB; have HO291 := n0_; have BK294 := n1_; have HB := n2_; have BK299 := n3_; have GW299 := n4_; have GE299 := n5_; have NB294_299 := n6_; have NB299_294 := n7_; clear n0_ n1_ n2_ n3_ n4_ n5_ n6_ n7_; clear hb hbox hg; have hnb56 := NB299_294.out; have hnc56 := NB294_299.out; have hcz57_0 : w55.cell? ⟨gb299, 0, none⟩ = some (.string (⟨#[]⟩ : ByteArray)) := (blk_cell BK299.out 0).trans rfl; have hcz57_1 : w55.cell? ⟨gb299, 1, none⟩ = some (.string (⟨#[]⟩ : ByteArray)) := (blk_cell BK299.out 1).trans rfl; have hcz57_2 : w55.cell? ⟨gb299, 2, none⟩ = some (.string (⟨#[]⟩ : ByteArray)) := (blk_cell BK299.out 2).trans rfl; have hfz57_0 := blk_frozen BK299.out 0; have hfz57_1 := blk_frozen BK299.out 1; have hfz57_2 := blk_frozen BK299.out 2; have hcz58_0 : w55.cell? ⟨gb294, 0, none⟩ = some (.slice Ao52 t289.length co52) := (blk_cell BK294.out 0).trans rfl; have hcz58_1 : w55.cell? ⟨gb294, 1, none⟩ = some (.string t292) := (blk_cell BK294.out 1).trans rfl; have hfz58_0 := blk_frozen BK294.out 0; have hfz58_1 := blk_frozen BK294.out 1) | ((with_reducible refine gate_callee (f := 16) rfl ?_); refine goesL_ (some 16) rfl rfl Tryz.func16 (by kernel_rfl) rfl #[.agg #[.slice Ao52 t289.length co52, .string t292]] rfl am ?_; (with_reducible refine (msg_Message_Lines.calls (hG := by first | exact hG | exact Glob.below hG (by first | exact HB.out | (repeat (first | (with_reducible first | exact HB.out | apply below_alloc | apply pw_below_drewN | apply below_drew1 | refine below_set ?_ GE294.out | refine below_set ?_ GE299.out) | exact HB.out))) | exact Glob.drawn hG (by repeat (first | exact Drawn0.refl _ | apply Drawn0.step))) k _ _ t289 t292 t300 _ ?side1 ?side2 A3.out).mono ?_); (case side1 => refine (Kd.R_reads' (e := 46) (base := w.heap.size) (ok := fun k_ => True) (n := t289.length) (c := co52) ?_).2.2; exact (by (with_reducible repeat (first | apply Kd.R_alloc | apply Kd.R_drewN | apply Kd.R_drew)); exact (Kd.R_mono (Kd.R_far (p := ⟨gb299, 2, none⟩) (Kd.R_far (p := ⟨gb299, 1, none⟩) (Kd.R_far (p := ⟨gb299, 0, none⟩) (Kd.R_types HO291.out BK299.out (by decide)) (fun _ hk => hk.2) (.string t295)) (fun _ hk => hk.2) (.string t296)) (fun _ hk => hk.2) (.string t297)) (fun _ h_ => h_.1)))); (case side2 => exact (Kd.R_reads' HO291.out).2.1); rintro e w59 ⟨v301, rfl, ho0, hb⟩; refine ⟨_, rfl, ?_⟩; have n0_ := Aside0.mk (Kd.R_below (by (with_reducible repeat (first | apply Kd.R_alloc | apply Kd.R_drewN | apply Kd.R_drew)); exact (Kd.R_mono (Kd.R_far (p := ⟨gb299, 2, none⟩) (Kd.R_far (p := ⟨gb299, 1, none⟩) (Kd.R_far (p := ⟨gb299, 0, none⟩) (Kd.R_types HO291.out BK299.out (by decide)) (fun _ hk => hk.2) (.string t295)) (fun _ hk => hk.2) (.string t296)) (fun _ hk => hk.2) (.string t297)) (fun _ h_ => h_.1))) hb); have n1_ := Aside0.mk (Kd.R_lower ho0 (below_size bwS)); have n2_ := Aside0.mk (blk_below (g := gb294) (o := .cells #[.slice Ao52 t289.length co52, .string t292] 25 (0, 0)) (by (with_reducible repeat (first | refine blk_drewN ?_ _ | refine blk_drew ?_ | refine blk_alloc ?_ _)); refine blk_far ?_ NB294_299.out _; (with_reducible repeat (first | refine blk_drewN ?_ _ | refine blk_drew ?_ | refine blk_alloc ?_ _)); refine blk_far ?_ NB294_299.out _; (with_reducible repeat (first | refine blk_drewN ?_ _ | refine blk_drew ?_ | refine blk_alloc ?_ _)); refine blk_far ?_ NB294_299.out _; (with_reducible repeat (first | refine blk_drewN ?_ _ | refine blk_drew ?_ | refine blk_alloc ?_ _)); exact BK294.out) hb); have n3_ := Aside0.mk (blk_below (g := gb299) (o := .cells #[.string t295, .string t296, .string t297] 53 (0, 0)) (by (with_reducible repeat (first | refine blk_drewN ?_ _ | refine blk_drew ?_ | refine blk_alloc ?_ _)); refine blk_put (cs := #[.string t295, .string t296, .string (⟨#[]⟩ : ByteArray)]) ?_ 2 _ rfl; (with_reducible repeat (first | refine blk_drewN ?_ _ | refine blk_drew ?_ | refine blk_alloc ?_ _)); refine blk_put (cs := #[.string t295, .string (⟨#[]⟩ : ByteArray), .string (⟨#[]⟩ : ByteArray)]) ?_ 1 _ rfl; (with_reducible repeat (first | refine blk_drewN ?_ _ | refine blk_drew ?_ | refine blk_alloc ?_ _)); refine blk_put (cs := #[.string (⟨#[]⟩ : ByteArray), .string (⟨#[]⟩ : ByteArray), .string (⟨#[]⟩ : ByteArray)]) ?_ 0 _ rfl; (with_reducible repeat (first | refine blk_drewN ?_ _ | refine blk_drew ?_ | refine blk_alloc ?_ _)); exact BK299.out) hb); have n4_ := Aside0.mk (below_step bwS hb); clear HO291; clear BK294; clear BK299; clear HB; have HO291 := n0_; have HO302 := n1_; have BK294 := n2_; have BK299 := n3_; have HB := n4_; clear n0_ n1_ n2_ n3_ n4_; (try clear hb); (try clear hb2); (try clear hk); (try clear hi); (try clear ho0); have hcz60_0 : w59.cell? ⟨gb299, 0, none⟩ = some (.string t295) := (blk_cell BK299.out 0).trans rfl; have hcz60_1 : w59.cell? ⟨gb299, 1, none⟩ = some (.string t296) := (blk_cell BK299.out 1).trans rfl; have hcz60_2 : w59.cell? ⟨gb299, 2, none⟩ = some (.string t297) := (blk_cell BK299.out 2).trans rfl; have hfz60_0 := blk_frozen BK299.out 0; have hfz60_1 := blk_frozen BK299.out 1; have hfz60_2 := blk_frozen BK299.out 2))
     go_ret
     exact ⟨by first | rfl | (simp [errW_none, errW_some] <;> rfl) | (simp [*, errW_none, errW_some] <;> rfl), bwS⟩
   ·rw [if_neg c6] at H
    have c6b0 : (t295.toList == ([65, 110, 110] : List UInt8)) = false := beq_eq_false_iff_ne.mpr c6
    have c6b1 : (t295.toList != ([65, 110, 110] : List UInt8)) = true := bne_iff_ne.mpr c6
    obtain rfl := Option.some.inj H
    go_enter Tryz.func9, Tryz.ntmps9
    go_wp2_with (first | ((with_reducible refine gate_callee (f := 10) rfl ?_); refine goesL_ (some 7) rfl rfl Tryz.func10 (by kernel_rfl) rfl #[.string (⟨#[70, 114, 111, 109, 58, 32, 65, 110, 110, 32, 60, 97, 64, 98, 62, 13, 10, 13, 10, 104, 105, 13, 10]⟩ : ByteArray)] rfl am ?_; (with_reducible refine (msg_Parse.calls (hG := by first | exact hG | exact Glob.below hG (by first | exact HB.out | (repeat (first | (with_reducible first | exact HB.out | apply below_alloc | apply pw_below_drewN | apply below_drew1 | refine below_set ?_ GE294.out | refine below_set ?_ GE299.out) | exact HB.out))) | exact Glob.drawn hG (by repeat (first | exact Drawn0.refl _ | apply Drawn0.step))) k (⟨#[70, 114, 111, 109, 58, 32, 65, 110, 110, 32, 60, 97, 64, 98, 62, 13, 10, 13, 10, 104, 105, 13, 10]⟩ : ByteArray) t289 t292 t293 _ A1.out).mono ?_); rintro e w61 ⟨v290, rfl, ho0, hb⟩; refine ⟨_, rfl, ?_⟩; have n0_ := Aside0.mk (Kd.R_lower ho0 (below_size bw)); have n1_ := Aside0.mk (below_step bw hb); clear HB; have HO291 := n0_; have HB := n1_; clear n0_ n1_; (try clear hb); (try clear hb2); (try clear hk); (try clear hi); (try clear ho0)) | ((with_reducible refine gate_dst (N := 1) rfl ?_); (try (refine gate_guard (by rfl) ?_; dsimp only)); refine box_event ?hg (N := 1) ?hd (cs := #[.slice none 0 0, .string (⟨#[]⟩ : ByteArray)]) (t := 25) ?hr ?_; (case hd => rfl); (case hg => rfl); (case hr => first | (go_simp; done) | (go_simp; rfl)); intro gb294 hg w62 hbox hb; have n0_ := Aside0.mk (Kd.R_below (by (with_reducible repeat (first | apply Kd.R_alloc | apply Kd.R_drewN | apply Kd.R_drew)); exact HO291.out) hb); have n1_ := Aside0.mk (below_step bw hb); have n2_ := Aside0.mk (hbox); have n3_ := Aside0.mk ((by rw [hg]; exact (below_size bw) : w.heap.size ≤ gb294)); have n4_ := Aside0.mk ((by rw [hg]; exact (below_size bw) : w.heap.size ≤ gb294)); clear HO291; clear HB; have HO291 := n0_; have HB := n1_; have BK294 := n2_; have GW294 := n3_; have GE294 := n4_; clear n0_ n1_ n2_ n3_ n4_; clear hb hbox hg; obtain ⟨Ao63, co63, eo63⟩ := Kd.R_slice HO291.out; subst eo63; have hcz64_0 : w62.cell? ⟨gb294, 0, none⟩ = some (.slice none 0 0) := (blk_cell BK294.out 0).trans rfl; have hcz64_1 : w62.cell? ⟨gb294, 1, none⟩ = some (.string (⟨#[]⟩ : ByteArray)) := (blk_cell BK294.out 1).trans rfl; have hfz64_0 := blk_frozen BK294.out 0; have hfz64_1 := blk_frozen BK294.out 1) | ((with_reducible refine gate_callee (f := 22) rfl ?_); refine goesL_ (some 12) rfl rfl Tryz.func22 (by kernel_rfl) rfl #[.agg #[.slice Ao63 t289.length co63, .string t292]] rfl am ?_; (with_reducible refine (msg_Message_From.calls (hG := by first | exact hG | exact Glob.below hG (by first | exact HB.out | (repeat (first | (with_reducible first | exact HB.out | apply below_alloc | apply pw_below_drewN | apply below_drew1 | refine below_set ?_ GE294.out | refine below_set ?_ GE299.out) | exact HB.out))) | exact Glob.drawn hG (by repeat (first | exact Drawn0.refl _ | apply Drawn0.step))) k _ _ t289 t292 t295 t296 t297 t298 _ ?side1 ?side2 A2.out).mono ?_); (case side1 => refine (Kd.R_reads' (e := 46) (base := w.heap.size) (ok := fun k_ => True) (n := t289.length) (c := co63) ?_).2.2; exact (by (with_reducible repeat (first | apply Kd.R_alloc | apply Kd.R_drewN | apply Kd.R_drew)); exact (Kd.R_mono (Kd.R_far (p := ⟨gb294, 1, none⟩) (Kd.R_far (p := ⟨gb294, 0, none⟩) (Kd.R_types HO291.out BK294.out (by decide)) (fun _ hk => hk.2) (.slice Ao63 t289.length co63)) (fun _ hk => hk.2) (.string t292)) (fun _ h_ => h_.1)))); (case side2 => exact (Kd.R_reads' HO291.out).2.1); rintro e w65 ⟨rfl, hb⟩; refine ⟨_, rfl, ?_⟩; have n0_ := Aside0.mk (Kd.R_below (by (with_reducible repeat (first | apply Kd.R_alloc | apply Kd.R_drewN | apply Kd.R_drew)); exact (Kd.R_mono (Kd.R_far (p := ⟨gb294, 1, none⟩) (Kd.R_far (p := ⟨gb294, 0, none⟩) (Kd.R_types HO291.out BK294.out (by decide)) (fun _ hk => hk.2) (.slice Ao63 t289.length co63)) (fun _ hk => hk.2) (.string t292)) (fun _ h_ => h_.1))) hb); have n1_ := Aside0.mk (blk_below (g := gb294) (o := .cells #[.slice Ao63 t289.length co63, .string t292] 25 (0, 0)) (by (with_reducible repeat (first | refine blk_drewN ?_ _ | refine blk_drew ?_ | refine blk_alloc ?_ _)); refine blk_put (cs := #[.slice Ao63 t289.length co63, .string (⟨#[]⟩ : ByteArray)]) ?_ 1 _ rfl; (with_reducible repeat (first | refine blk_drewN ?_ _ | refine blk_drew ?_ | refine blk_alloc ?_ _)); refine blk_put (cs := #[.slice none 0 0, .string (⟨#[]⟩ : ByteArray)]) ?_ 0 _ rfl; (with_reducible repeat (first | refine blk_drewN ?_ _ | refine blk_drew ?_ | refine blk_alloc ?_ _)); exact BK294.out) hb); have n2_ := Aside0.mk (below_step bwS hb); clear HO291; clear BK294; clear HB; have HO291 := n0_; have BK294 := n1_; have HB := n2_; clear n0_ n1_ n2_; (try clear hb); (try clear hb2); (try clear hk); (try clear hi)) | ((with_reducible refine gate_dst (N := 3) rfl ?_); (try (refine gate_guard (by rfl) ?_; dsimp only)); refine box_event ?hg (N := 3) ?hd (cs := #[.string (⟨#[]⟩ : ByteArray), .string (⟨#[]⟩ : ByteArray), .string (⟨#[]⟩ : ByteArray)]) (t := 53) ?hr ?_; (case hd => rfl); (case hg => rfl); (case hr => first | (go_simp; done) | (go_simp; rfl)); intro gb299 hg w66 hbox hb; have n0_ := Aside0.mk (Kd.R_below (by (with_reducible repeat (first | apply Kd.R_alloc | apply Kd.R_drewN | apply Kd.R_drew)); exact HO291.out) hb); have n1_ := Aside0.mk (blk_below (g := gb294) (o := .cells #[.slice Ao63 t289.length co63, .string t292] 25 (0, 0)) bk hb); have n2_ := Aside0.mk (below_step bwS hb); have n3_ := Aside0.mk (hbox); have n4_ := Aside0.mk ((by rw [hg]; exact (below_size bwS) : w.heap.size ≤ gb299)); have n5_ := Aside0.mk ((by rw [hg]; exact (below_size bwS) : w.heap.size ≤ gb299)); have n6_ := Aside0.mk ((by rw [hg]; exact Nat.ne_of_lt (blk_lt (g := gb294) (o := .cells #[.slice Ao63 t289.length co63, .string t292] 25 (0, 0)) bk) : gb294 ≠ gb299)); have n7_ := Aside0.mk ((by rw [hg]; exact Nat.ne_of_gt (blk_lt (g := gb294) (o := .cells #[.slice Ao63 t289.length co63, .string t292] 25 (0, 0)) bk) : gb299 ≠ gb294)); clear HO291; clear BK294; clear HB; have HO291 := n0_; have BK294 := n1_; have HB := n2_; have BK299 := n3_; have GW299 := n4_; have GE299 := n5_; have NB294_299 := n6_; have NB299_294 := n7_; clear n0_ n1_ n2_ n3_ n4_ n5_ n6_ n7_; clear hb hbox hg; have hnb67 := NB299_294.out; have hnc67 := NB294_299.out; have hcz68_0 : w66.cell? ⟨gb299, 0, none⟩ = some (.string (⟨#[]⟩ : ByteArray)) := (blk_cell BK299.out 0).trans rfl; have hcz68_1 : w66.cell? ⟨gb299, 1, none⟩ = some (.string (⟨#[]⟩ : ByteArray)) := (blk_cell BK299.out 1).trans rfl; have hcz68_2 : w66.cell? ⟨gb299, 2, none⟩ = some (.string (⟨#[]⟩ : ByteArray)) := (blk_cell BK299.out 2).trans rfl; have hfz68_0 := blk_frozen BK299.out 0; have hfz68_1 := blk_frozen BK299.out 1; have hfz68_2 := blk_frozen BK299.out 2; have hcz69_0 : w66.cell? ⟨gb294, 0, none⟩ = some (.slice Ao63 t289.length co63) := (blk_cell BK294.out 0).trans rfl; have hcz69_1 : w66.cell? ⟨gb294, 1, none⟩ = some (.string t292) := (blk_cell BK294.out 1).trans rfl; have hfz69_0 := blk_frozen BK294.out 0; have hfz69_1 := blk_frozen BK294.out 1) | ((with_reducible refine gate_callee (f := 16) rfl ?_); refine goesL_ (some 16) rfl rfl Tryz.func16 (by kernel_rfl) rfl #[.agg #[.slice Ao63 t289.length co63, .string t292]] rfl am ?_; (with_reducible refine (msg_Message_Lines.calls (hG := by first | exact hG | exact Glob.below hG (by first | exact HB.out | (repeat (first | (with_reducible first | exact HB.out | apply below_alloc | apply pw_below_drewN | apply below_drew1 | refine below_set ?_ GE294.out | refine below_set ?_ GE299.out) | exact HB.out))) | exact Glob.drawn hG (by repeat (first | exact Drawn0.refl _ | apply Drawn0.step))) k _ _ t289 t292 t300 _ ?side1 ?side2 A3.out).mono ?_); (case side1 => refine (Kd.R_reads' (e := 46) (base := w.heap.size) (ok := fun k_ => True) (n := t289.length) (c := co63) ?_).2.2; exact (by (with_reducible repeat (first | apply Kd.R_alloc | apply Kd.R_drewN | apply Kd.R_drew)); exact (Kd.R_mono (Kd.R_far (p := ⟨gb299, 2, none⟩) (Kd.R_far (p := ⟨gb299, 1, none⟩) (Kd.R_far (p := ⟨gb299, 0, none⟩) (Kd.R_types HO291.out BK299.out (by decide)) (fun _ hk => hk.2) (.string t295)) (fun _ hk => hk.2) (.string t296)) (fun _ hk => hk.2) (.string t297)) (fun _ h_ => h_.1)))); (case side2 => exact (Kd.R_reads' HO291.out).2.1); rintro e w70 ⟨v301, rfl, ho0, hb⟩; refine ⟨_, rfl, ?_⟩; have n0_ := Aside0.mk (Kd.R_below (by (with_reducible repeat (first | apply Kd.R_alloc | apply Kd.R_drewN | apply Kd.R_drew)); exact (Kd.R_mono (Kd.R_far (p := ⟨gb299, 2, none⟩) (Kd.R_far (p := ⟨gb299, 1, none⟩) (Kd.R_far (p := ⟨gb299, 0, none⟩) (Kd.R_types HO291.out BK299.out (by decide)) (fun _ hk => hk.2) (.string t295)) (fun _ hk => hk.2) (.string t296)) (fun _ hk => hk.2) (.string t297)) (fun _ h_ => h_.1))) hb); have n1_ := Aside0.mk (Kd.R_lower ho0 (below_size bwS)); have n2_ := Aside0.mk (blk_below (g := gb294) (o := .cells #[.slice Ao63 t289.length co63, .string t292] 25 (0, 0)) (by (with_reducible repeat (first | refine blk_drewN ?_ _ | refine blk_drew ?_ | refine blk_alloc ?_ _)); refine blk_far ?_ NB294_299.out _; (with_reducible repeat (first | refine blk_drewN ?_ _ | refine blk_drew ?_ | refine blk_alloc ?_ _)); refine blk_far ?_ NB294_299.out _; (with_reducible repeat (first | refine blk_drewN ?_ _ | refine blk_drew ?_ | refine blk_alloc ?_ _)); refine blk_far ?_ NB294_299.out _; (with_reducible repeat (first | refine blk_drewN ?_ _ | refine blk_drew ?_ | refine blk_alloc ?_ _)); exact BK294.out) hb); have n3_ := Aside0.mk (blk_below (g := gb299) (o := .cells #[.string t295, .string t296, .string t297] 53 (0, 0)) (by (with_reducible repeat (first | refine blk_drewN ?_ _ | refine blk_drew ?_ | refine blk_alloc ?_ _)); refine blk_put (cs := #[.string t295, .string t296, .string (⟨#[]⟩ : ByteArray)]) ?_ 2 _ rfl; (with_reducible repeat (first | refine blk_drewN ?_ _ | refine blk_drew ?_ | refine blk_alloc ?_ _)); refine blk_put (cs := #[.string t295, .string (⟨#[]⟩ : ByteArray), .string (⟨#[]⟩ : ByteArray)]) ?_ 1 _ rfl; (with_reducible repeat (first | refine blk_drewN ?_ _ | refine blk_drew ?_ | refine blk_alloc ?_ _)); refine blk_put (cs := #[.string (⟨#[]⟩ : ByteArray), .string (⟨#[]⟩ : ByteArray), .string (⟨#[]⟩ : ByteArray)]) ?_ 0 _ rfl; (with_reducible repeat (first | refine blk_drewN ?_ _ | refine blk_drew ?_ | refine blk_alloc ?_ _)); exact BK299.out) hb); have n4_ := Aside0.mk (below_step bwS hb); clear HO291; clear BK294; clear BK299; clear HB; have HO291 := n0_; have HO302 := n1_; have BK294 := n2_; have BK299 := n3_; have HB := n4_; clear n0_ n1_ n2_ n3_ n4_; (try clear hb); (try clear hb2); (try clear hk); (try clear hi); (try clear ho0); have hcz71_0 : w70.cell? ⟨gb299, 0, none⟩ = some (.string t295) := (blk_cell BK299.out 0).trans rfl; have hcz71_1 : w70.cell? ⟨gb299, 1, none⟩ = some (.string t296) := (blk_cell BK299.out 1).trans rfl; have hcz71_2 : w70.cell? ⟨gb299, 2, none⟩ = some (.string t297) := (blk_cell BK299.out 2).trans rfl; have hfz71_0 := blk_frozen BK299.out 0; have hfz71_1 := blk_frozen BK299.out 1; have hfz71_2 := blk_frozen BK299.out 2))
    go_ret
    exact ⟨by first | rfl | (simp [errW_none, errW_some] <;> rfl) | (simp [*, errW_none, errW_some] <;> rfl), bwS⟩
  ·rw [if_neg c5] at H
   have c5b0 : (t298 == 0) = false := beq_eq_false_iff_ne.mpr c5
   have c5b1 : (t298 != 0) = true := bne_iff_ne.mpr c5
   obtain rfl := Option.some.inj H
   go_enter Tryz.func9, Tryz.ntmps9
   go_wp2_with (first | ((with_reducible refine gate_callee (f := 10) rfl ?_); refine goesL_ (some 7) rfl rfl Tryz.func10 (by kernel_rfl) rfl #[.string (⟨#[70, 114, 111, 109, 58, 32, 65, 110, 110, 32, 60, 97, 64, 98, 62, 13, 10, 13, 10, 104, 105, 13, 10]⟩ : ByteArray)] rfl am ?_; (with_reducible refine (msg_Parse.calls (hG := by first | exact hG | exact Glob.below hG (by first | exact HB.out | (repeat (first | (with_reducible first | exact HB.out | apply below_alloc | apply pw_below_drewN | apply below_drew1 | refine below_set ?_ GE294.out | refine below_set ?_ GE299.out) | exact HB.out))) | exact Glob.drawn hG (by repeat (first | exact Drawn0.refl _ | apply Drawn0.step))) k (⟨#[70, 114, 111, 109, 58, 32, 65, 110, 110, 32, 60, 97, 64, 98, 62, 13, 10, 13, 10, 104, 105, 13, 10]⟩ : ByteArray) t289 t292 t293 _ A1.out).mono ?_); rintro e w72 ⟨v290, rfl, ho0, hb⟩; refine ⟨_, rfl, ?_⟩; have n0_ := Aside0.mk (Kd.R_lower ho0 (below_size bw)); have n1_ := Aside0.mk (below_step bw hb); clear HB; have HO291 := n0_; have HB := n1_; clear n0_ n1_; (try clear hb); (try clear hb2); (try clear hk); (try clear hi); (try clear ho0)) | ((with_reducible refine gate_dst (N := 1) rfl ?_); (try (refine gate_guard (by rfl) ?_; dsimp only)); refine box_event ?hg (N := 1) ?hd (cs := #[.slice none 0 0, .string (⟨#[]⟩ : ByteArray)]) (t := 25) ?hr ?_; (case hd => rfl); (case hg => rfl); (case hr => first | (go_simp; done) | (go_simp; rfl)); intro gb294 hg w73 hbox hb; have n0_ := Aside0.mk (Kd.R_below (by (with_reducible repeat (first | apply Kd.R_alloc | apply Kd.R_drewN | apply Kd.R_drew)); exact HO291.out) hb); have n1_ := Aside0.mk (below_step bw hb); have n2_ := Aside0.mk (hbox); have n3_ := Aside0.mk ((by rw [hg]; exact (below_size bw) : w.heap.size ≤ gb294)); have n4_ := Aside0.mk ((by rw [hg]; exact (below_size bw) : w.heap.size ≤ gb294)); clear HO291; clear HB; have HO291 := n0_; have HB := n1_; have BK294 := n2_; have GW294 := n3_; have GE294 := n4_; clear n0_ n1_ n2_ n3_ n4_; clear hb hbox hg; obtain ⟨Ao74, co74, eo74⟩ := Kd.R_slice HO291.out; subst eo74; have hcz75_0 : w73.cell? ⟨gb294, 0, none⟩ = some (.slice none 0 0) := (blk_cell BK294.out 0).trans rfl; have hcz75_1 : w73.cell? ⟨gb294, 1, none⟩ = some (.string (⟨#[]⟩ : ByteArray)) := (blk_cell BK294.out 1).trans rfl; have hfz75_0 := blk_frozen BK294.out 0; have hfz75_1 := blk_frozen BK294.out 1) | ((with_reducible refine gate_callee (f := 22) rfl ?_); refine goesL_ (some 12) rfl rfl Tryz.func22 (by kernel_rfl) rfl #[.agg #[.slice Ao74 t289.length co74, .string t292]] rfl am ?_; (with_reducible refine (msg_Message_From.calls (hG := by first | exact hG | exact Glob.below hG (by first | exact HB.out | (repeat (first | (with_reducible first | exact HB.out | apply below_alloc | apply pw_below_drewN | apply below_drew1 | refine below_set ?_ GE294.out | refine below_set ?_ GE299.out) | exact HB.out))) | exact Glob.drawn hG (by repeat (first | exact Drawn0.refl _ | apply Drawn0.step))) k _ _ t289 t292 t295 t296 t297 t298 _ ?side1 ?side2 A2.out).mono ?_); (case side1 => refine (Kd.R_reads' (e := 46) (base := w.heap.size) (ok := fun k_ => True) (n := t289.length) (c := co74) ?_).2.2; exact (by (with_reducible repeat (first | apply Kd.R_alloc | apply Kd.R_drewN | apply Kd.R_drew)); exact (Kd.R_mono (Kd.R_far (p := ⟨gb294, 1, none⟩) (Kd.R_far (p := ⟨gb294, 0, none⟩) (Kd.R_types HO291.out BK294.out (by decide)) (fun _ hk => hk.2) (.slice Ao74 t289.length co74)) (fun _ hk => hk.2) (.string t292)) (fun _ h_ => h_.1)))); (case side2 => exact (Kd.R_reads' HO291.out).2.1); rintro e w76 ⟨rfl, hb⟩; refine ⟨_, rfl, ?_⟩; have n0_ := Aside0.mk (Kd.R_below (by (with_reducible repeat (first | apply Kd.R_alloc | apply Kd.R_drewN | apply Kd.R_drew)); exact (Kd.R_mono (Kd.R_far (p := ⟨gb294, 1, none⟩) (Kd.R_far (p := ⟨gb294, 0, none⟩) (Kd.R_types HO291.out BK294.out (by decide)) (fun _ hk => hk.2) (.slice Ao74 t289.length co74)) (fun _ hk => hk.2) (.string t292)) (fun _ h_ => h_.1))) hb); have n1_ := Aside0.mk (blk_below (g := gb294) (o := .cells #[.slice Ao74 t289.length co74, .string t292] 25 (0, 0)) (by (with_reducible repeat (first | refine blk_drewN ?_ _ | refine blk_drew ?_ | refine blk_alloc ?_ _)); refine blk_put (cs := #[.slice Ao74 t289.length co74, .string (⟨#[]⟩ : ByteArray)]) ?_ 1 _ rfl; (with_reducible repeat (first | refine blk_drewN ?_ _ | refine blk_drew ?_ | refine blk_alloc ?_ _)); refine blk_put (cs := #[.slice none 0 0, .string (⟨#[]⟩ : ByteArray)]) ?_ 0 _ rfl; (with_reducible repeat (first | refine blk_drewN ?_ _ | refine blk_drew ?_ | refine blk_alloc ?_ _)); exact BK294.out) hb); have n2_ := Aside0.mk (below_step bwS hb); clear HO291; clear BK294; clear HB; have HO291 := n0_; have BK294 := n1_; have HB := n2_; clear n0_ n1_ n2_; (try clear hb); (try clear hb2); (try clear hk); (try clear hi)) | ((with_reducible refine gate_dst (N := 3) rfl ?_); (try (refine gate_guard (by rfl) ?_; dsimp only)); refine box_event ?hg (N := 3) ?hd (cs := #[.string (⟨#[]⟩ : ByteArray), .string (⟨#[]⟩ : ByteArray), .string (⟨#[]⟩ : ByteArray)]) (t := 53) ?hr ?_; (case hd => rfl); (case hg => rfl); (case hr => first | (go_simp; done) | (go_simp; rfl)); intro gb299 hg w77 hbox hb; have n0_ := Aside0.mk (Kd.R_below (by (with_reducible repeat (first | apply Kd.R_alloc | apply Kd.R_drewN | apply Kd.R_drew)); exact HO291.out) hb); have n1_ := Aside0.mk (blk_below (g := gb294) (o := .cells #[.slice Ao74 t289.length co74, .string t292] 25 (0, 0)) bk hb); have n2_ := Aside0.mk (below_step bwS hb); have n3_ := Aside0.mk (hbox); have n4_ := Aside0.mk ((by rw [hg]; exact (below_size bwS) : w.heap.size ≤ gb299)); have n5_ := Aside0.mk ((by rw [hg]; exact (below_size bwS) : w.heap.size ≤ gb299)); have n6_ := Aside0.mk ((by rw [hg]; exact Nat.ne_of_lt (blk_lt (g := gb294) (o := .cells #[.slice Ao74 t289.length co74, .string t292] 25 (0, 0)) bk) : gb294 ≠ gb299)); have n7_ := Aside0.mk ((by rw [hg]; exact Nat.ne_of_gt (blk_lt (g := gb294) (o := .cells #[.slice Ao74 t289.length co74, .string t292] 25 (0, 0)) bk) : gb299 ≠ gb294)); clear HO291; clear BK294; clear HB; have HO291 := n0_; have BK294 := n1_; have HB := n2_; have BK299 := n3_; have GW299 := n4_; have GE299 := n5_; have NB294_299 := n6_; have NB299_294 := n7_; clear n0_ n1_ n2_ n3_ n4_ n5_ n6_ n7_; clear hb hbox hg; have hnb78 := NB299_294.out; have hnc78 := NB294_299.out; have hcz79_0 : w77.cell? ⟨gb299, 0, none⟩ = some (.string (⟨#[]⟩ : ByteArray)) := (blk_cell BK299.out 0).trans rfl; have hcz79_1 : w77.cell? ⟨gb299, 1, none⟩ = some (.string (⟨#[]⟩ : ByteArray)) := (blk_cell BK299.out 1).trans rfl; have hcz79_2 : w77.cell? ⟨gb299, 2, none⟩ = some (.string (⟨#[]⟩ : ByteArray)) := (blk_cell BK299.out 2).trans rfl; have hfz79_0 := blk_frozen BK299.out 0; have hfz79_1 := blk_frozen BK299.out 1; have hfz79_2 := blk_frozen BK299.out 2; have hcz80_0 : w77.cell? ⟨gb294, 0, none⟩ = some (.slice Ao74 t289.length co74) := (blk_cell BK294.out 0).trans rfl; have hcz80_1 : w77.cell? ⟨gb294, 1, none⟩ = some (.string t292) := (blk_cell BK294.out 1).trans rfl; have hfz80_0 := blk_frozen BK294.out 0; have hfz80_1 := blk_frozen BK294.out 1) | ((with_reducible refine gate_callee (f := 16) rfl ?_); refine goesL_ (some 16) rfl rfl Tryz.func16 (by kernel_rfl) rfl #[.agg #[.slice Ao74 t289.length co74, .string t292]] rfl am ?_; (with_reducible refine (msg_Message_Lines.calls (hG := by first | exact hG | exact Glob.below hG (by first | exact HB.out | (repeat (first | (with_reducible first | exact HB.out | apply below_alloc | apply pw_below_drewN | apply below_drew1 | refine below_set ?_ GE294.out | refine below_set ?_ GE299.out) | exact HB.out))) | exact Glob.drawn hG (by repeat (first | exact Drawn0.refl _ | apply Drawn0.step))) k _ _ t289 t292 t300 _ ?side1 ?side2 A3.out).mono ?_); (case side1 => refine (Kd.R_reads' (e := 46) (base := w.heap.size) (ok := fun k_ => True) (n := t289.length) (c := co74) ?_).2.2; exact (by (with_reducible repeat (first | apply Kd.R_alloc | apply Kd.R_drewN | apply Kd.R_drew)); exact (Kd.R_mono (Kd.R_far (p := ⟨gb299, 2, none⟩) (Kd.R_far (p := ⟨gb299, 1, none⟩) (Kd.R_far (p := ⟨gb299, 0, none⟩) (Kd.R_types HO291.out BK299.out (by decide)) (fun _ hk => hk.2) (.string t295)) (fun _ hk => hk.2) (.string t296)) (fun _ hk => hk.2) (.string t297)) (fun _ h_ => h_.1)))); (case side2 => exact (Kd.R_reads' HO291.out).2.1); rintro e w81 ⟨v301, rfl, ho0, hb⟩; refine ⟨_, rfl, ?_⟩; have n0_ := Aside0.mk (Kd.R_below (by (with_reducible repeat (first | apply Kd.R_alloc | apply Kd.R_drewN | apply Kd.R_drew)); exact (Kd.R_mono (Kd.R_far (p := ⟨gb299, 2, none⟩) (Kd.R_far (p := ⟨gb299, 1, none⟩) (Kd.R_far (p := ⟨gb299, 0, none⟩) (Kd.R_types HO291.out BK299.out (by decide)) (fun _ hk => hk.2) (.string t295)) (fun _ hk => hk.2) (.string t296)) (fun _ hk => hk.2) (.string t297)) (fun _ h_ => h_.1))) hb); have n1_ := Aside0.mk (Kd.R_lower ho0 (below_size bwS)); have n2_ := Aside0.mk (blk_below (g := gb294) (o := .cells #[.slice Ao74 t289.length co74, .string t292] 25 (0, 0)) (by (with_reducible repeat (first | refine blk_drewN ?_ _ | refine blk_drew ?_ | refine blk_alloc ?_ _)); refine blk_far ?_ NB294_299.out _; (with_reducible repeat (first | refine blk_drewN ?_ _ | refine blk_drew ?_ | refine blk_alloc ?_ _)); refine blk_far ?_ NB294_299.out _; (with_reducible repeat (first | refine blk_drewN ?_ _ | refine blk_drew ?_ | refine blk_alloc ?_ _)); refine blk_far ?_ NB294_299.out _; (with_reducible repeat (first | refine blk_drewN ?_ _ | refine blk_drew ?_ | refine blk_alloc ?_ _)); exact BK294.out) hb); have n3_ := Aside0.mk (blk_below (g := gb299) (o := .cells #[.string t295, .string t296, .string t297] 53 (0, 0)) (by (with_reducible repeat (first | refine blk_drewN ?_ _ | refine blk_drew ?_ | refine blk_alloc ?_ _)); refine blk_put (cs := #[.string t295, .string t296, .string (⟨#[]⟩ : ByteArray)]) ?_ 2 _ rfl; (with_reducible repeat (first | refine blk_drewN ?_ _ | refine blk_drew ?_ | refine blk_alloc ?_ _)); refine blk_put (cs := #[.string t295, .string (⟨#[]⟩ : ByteArray), .string (⟨#[]⟩ : ByteArray)]) ?_ 1 _ rfl; (with_reducible repeat (first | refine blk_drewN ?_ _ | refine blk_drew ?_ | refine blk_alloc ?_ _)); refine blk_put (cs := #[.string (⟨#[]⟩ : ByteArray), .string (⟨#[]⟩ : ByteArray), .string (⟨#[]⟩ : ByteArray)]) ?_ 0 _ rfl; (with_reducible repeat (first | refine blk_drewN ?_ _ | refine blk_drew ?_ | refine blk_alloc ?_ _)); exact BK299.out) hb); have n4_ := Aside0.mk (below_step bwS hb); clear HO291; clear BK294; clear BK299; clear HB; have HO291 := n0_; have HO302 := n1_; have BK294 := n2_; have BK299 := n3_; have HB := n4_; clear n0_ n1_ n2_ n3_ n4_; (try clear hb); (try clear hb2); (try clear hk); (try clear hi); (try clear ho0)))
   go_ret
   exact ⟨by first | rfl | (simp [errW_none, errW_some] <;> rfl) | (simp [*, errW_none, errW_some] <;> rfl), bwS⟩
 ·rw [if_neg c4] at H
  have c4b0 : (t293 == 0) = false := beq_eq_false_iff_ne.mpr c4
  have c4b1 : (t293 != 0) = true := bne_iff_ne.mpr c4
  obtain rfl := Option.some.inj H
  go_enter Tryz.func9, Tryz.ntmps9
  go_wp2_with (first | ((with_reducible refine gate_callee (f := 10) rfl ?_); refine goesL_ (some 7) rfl rfl Tryz.func10 (by kernel_rfl) rfl #[.string (⟨#[70, 114, 111, 109, 58, 32, 65, 110, 110, 32, 60, 97, 64, 98, 62, 13, 10, 13, 10, 104, 105, 13, 10]⟩ : ByteArray)] rfl am ?_; (with_reducible refine (msg_Parse.calls (hG := by first | exact hG | exact Glob.below hG (by first | exact HB.out | (repeat (first | (with_reducible first | exact HB.out | apply below_alloc | apply pw_below_drewN | apply below_drew1 | refine below_set ?_ GE294.out | refine below_set ?_ GE299.out) | exact HB.out))) | exact Glob.drawn hG (by repeat (first | exact Drawn0.refl _ | apply Drawn0.step))) k (⟨#[70, 114, 111, 109, 58, 32, 65, 110, 110, 32, 60, 97, 64, 98, 62, 13, 10, 13, 10, 104, 105, 13, 10]⟩ : ByteArray) t289 t292 t293 _ A1.out).mono ?_); rintro e w82 ⟨v290, rfl, ho0, hb⟩; refine ⟨_, rfl, ?_⟩; have n0_ := Aside0.mk (Kd.R_lower ho0 (below_size bw)); have n1_ := Aside0.mk (below_step bw hb); clear HB; have HO291 := n0_; have HB := n1_; clear n0_ n1_; (try clear hb); (try clear hb2); (try clear hk); (try clear hi); (try clear ho0)) | ((with_reducible refine gate_dst (N := 1) rfl ?_); (try (refine gate_guard (by rfl) ?_; dsimp only)); refine box_event ?hg (N := 1) ?hd (cs := #[.slice none 0 0, .string (⟨#[]⟩ : ByteArray)]) (t := 25) ?hr ?_; (case hd => rfl); (case hg => rfl); (case hr => first | (go_simp; done) | (go_simp; rfl)); intro gb294 hg w83 hbox hb; have n0_ := Aside0.mk (Kd.R_below (by (with_reducible repeat (first | apply Kd.R_alloc | apply Kd.R_drewN | apply Kd.R_drew)); exact HO291.out) hb); have n1_ := Aside0.mk (below_step bw hb); have n2_ := Aside0.mk (hbox); have n3_ := Aside0.mk ((by rw [hg]; exact (below_size bw) : w.heap.size ≤ gb294)); have n4_ := Aside0.mk ((by rw [hg]; exact (below_size bw) : w.heap.size ≤ gb294)); clear HO291; clear HB; have HO291 := n0_; have HB := n1_; have BK294 := n2_; have GW294 := n3_; have GE294 := n4_; clear n0_ n1_ n2_ n3_ n4_; clear hb hbox hg; obtain ⟨Ao84, co84, eo84⟩ := Kd.R_slice HO291.out; subst eo84; have hcz85_0 : w83.cell? ⟨gb294, 0, none⟩ = some (.slice none 0 0) := (blk_cell BK294.out 0).trans rfl; have hcz85_1 : w83.cell? ⟨gb294, 1, none⟩ = some (.string (⟨#[]⟩ : ByteArray)) := (blk_cell BK294.out 1).trans rfl; have hfz85_0 := blk_frozen BK294.out 0; have hfz85_1 := blk_frozen BK294.out 1) | ((with_reducible refine gate_callee (f := 22) rfl ?_); refine goesL_ (some 12) rfl rfl Tryz.func22 (by kernel_rfl) rfl #[.agg #[.slice Ao84 t289.length co84, .string t292]] rfl am ?_; (with_reducible refine (msg_Message_From.calls (hG := by first | exact hG | exact Glob.below hG (by first | exact HB.out | (repeat (first | (with_reducible first | exact HB.out | apply below_alloc | apply pw_below_drewN | apply below_drew1 | refine below_set ?_ GE294.out | refine below_set ?_ GE299.out) | exact HB.out))) | exact Glob.drawn hG (by repeat (first | exact Drawn0.refl _ | apply Drawn0.step))) k _ _ t289 t292 t295 t296 t297 t298 _ ?side1 ?side2 A2.out).mono ?_); (case side1 => refine (Kd.R_reads' (e := 46) (base := w.heap.size) (ok := fun k_ => True) (n := t289.length) (c := co84) ?_).2.2; exact (by (with_reducible repeat (first | apply Kd.R_alloc | apply Kd.R_drewN | apply Kd.R_drew)); exact (Kd.R_mono (Kd.R_far (p := ⟨gb294, 1, none⟩) (Kd.R_far (p := ⟨gb294, 0, none⟩) (Kd.R_types HO291.out BK294.out (by decide)) (fun _ hk => hk.2) (.slice Ao84 t289.length co84)) (fun _ hk => hk.2) (.string t292)) (fun _ h_ => h_.1)))); (case side2 => exact (Kd.R_reads' HO291.out).2.1); rintro e w86 ⟨rfl, hb⟩; refine ⟨_, rfl, ?_⟩; have n0_ := Aside0.mk (Kd.R_below (by (with_reducible repeat (first | apply Kd.R_alloc | apply Kd.R_drewN | apply Kd.R_drew)); exact (Kd.R_mono (Kd.R_far (p := ⟨gb294, 1, none⟩) (Kd.R_far (p := ⟨gb294, 0, none⟩) (Kd.R_types HO291.out BK294.out (by decide)) (fun _ hk => hk.2) (.slice Ao84 t289.length co84)) (fun _ hk => hk.2) (.string t292)) (fun _ h_ => h_.1))) hb); have n1_ := Aside0.mk (blk_below (g := gb294) (o := .cells #[.slice Ao84 t289.length co84, .string t292] 25 (0, 0)) (by (with_reducible repeat (first | refine blk_drewN ?_ _ | refine blk_drew ?_ | refine blk_alloc ?_ _)); refine blk_put (cs := #[.slice Ao84 t289.length co84, .string (⟨#[]⟩ : ByteArray)]) ?_ 1 _ rfl; (with_reducible repeat (first | refine blk_drewN ?_ _ | refine blk_drew ?_ | refine blk_alloc ?_ _)); refine blk_put (cs := #[.slice none 0 0, .string (⟨#[]⟩ : ByteArray)]) ?_ 0 _ rfl; (with_reducible repeat (first | refine blk_drewN ?_ _ | refine blk_drew ?_ | refine blk_alloc ?_ _)); exact BK294.out) hb); have n2_ := Aside0.mk (below_step bwS hb); clear HO291; clear BK294; clear HB; have HO291 := n0_; have BK294 := n1_; have HB := n2_; clear n0_ n1_ n2_; (try clear hb); (try clear hb2); (try clear hk); (try clear hi)) | ((with_reducible refine gate_dst (N := 3) rfl ?_); (try (refine gate_guard (by rfl) ?_; dsimp only)); refine box_event ?hg (N := 3) ?hd (cs := #[.string (⟨#[]⟩ : ByteArray), .string (⟨#[]⟩ : ByteArray), .string (⟨#[]⟩ : ByteArray)]) (t := 53) ?hr ?_; (case hd => rfl); (case hg => rfl); (case hr => first | (go_simp; done) | (go_simp; rfl)); intro gb299 hg w87 hbox hb; have n0_ := Aside0.mk (Kd.R_below (by (with_reducible repeat (first | apply Kd.R_alloc | apply Kd.R_drewN | apply Kd.R_drew)); exact HO291.out) hb); have n1_ := Aside0.mk (blk_below (g := gb294) (o := .cells #[.slice Ao84 t289.length co84, .string t292] 25 (0, 0)) bk hb); have n2_ := Aside0.mk (below_step bwS hb); have n3_ := Aside0.mk (hbox); have n4_ := Aside0.mk ((by rw [hg]; exact (below_size bwS) : w.heap.size ≤ gb299)); have n5_ := Aside0.mk ((by rw [hg]; exact (below_size bwS) : w.heap.size ≤ gb299)); have n6_ := Aside0.mk ((by rw [hg]; exact Nat.ne_of_lt (blk_lt (g := gb294) (o := .cells #[.slice Ao84 t289.length co84, .string t292] 25 (0, 0)) bk) : gb294 ≠ gb299)); have n7_ := Aside0.mk ((by rw [hg]; exact Nat.ne_of_gt (blk_lt (g := gb294) (o := .cells #[.slice Ao84 t289.length co84, .string t292] 25 (0, 0)) bk) : gb299 ≠ gb294)); clear HO291; clear BK294; clear HB; have HO291 := n0_; have BK294 := n1_; have HB := n2_; have BK299 := n3_; have GW299 := n4_; have GE299 := n5_; have NB294_299 := n6_; have NB299_294 := n7_; clear n0_ n1_ n2_ n3_ n4_ n5_ n6_ n7_; clear hb hbox hg; have hnb88 := NB299_294.out; have hnc88 := NB294_299.out; have hcz89_0 : w87.cell? ⟨gb299, 0, none⟩ = some (.string (⟨#[]⟩ : ByteArray)) := (blk_cell BK299.out 0).trans rfl; have hcz89_1 : w87.cell? ⟨gb299, 1, none⟩ = some (.string (⟨#[]⟩ : ByteArray)) := (blk_cell BK299.out 1).trans rfl; have hcz89_2 : w87.cell? ⟨gb299, 2, none⟩ = some (.string (⟨#[]⟩ : ByteArray)) := (blk_cell BK299.out 2).trans rfl; have hfz89_0 := blk_frozen BK299.out 0; have hfz89_1 := blk_frozen BK299.out 1; have hfz89_2 := blk_frozen BK299.out 2; have hcz90_0 : w87.cell? ⟨gb294, 0, none⟩ = some (.slice Ao84 t289.length co84) := (blk_cell BK294.out 0).trans rfl; have hcz90_1 : w87.cell? ⟨gb294, 1, none⟩ = some (.string t292) := (blk_cell BK294.out 1).trans rfl; have hfz90_0 := blk_frozen BK294.out 0; have hfz90_1 := blk_frozen BK294.out 1) | ((with_reducible refine gate_callee (f := 16) rfl ?_); refine goesL_ (some 16) rfl rfl Tryz.func16 (by kernel_rfl) rfl #[.agg #[.slice Ao84 t289.length co84, .string t292]] rfl am ?_; (with_reducible refine (msg_Message_Lines.calls (hG := by first | exact hG | exact Glob.below hG (by first | exact HB.out | (repeat (first | (with_reducible first | exact HB.out | apply below_alloc | apply pw_below_drewN | apply below_drew1 | refine below_set ?_ GE294.out | refine below_set ?_ GE299.out) | exact HB.out))) | exact Glob.drawn hG (by repeat (first | exact Drawn0.refl _ | apply Drawn0.step))) k _ _ t289 t292 t300 _ ?side1 ?side2 A3.out).mono ?_); (case side1 => refine (Kd.R_reads' (e := 46) (base := w.heap.size) (ok := fun k_ => True) (n := t289.length) (c := co84) ?_).2.2; exact (by (with_reducible repeat (first | apply Kd.R_alloc | apply Kd.R_drewN | apply Kd.R_drew)); exact (Kd.R_mono (Kd.R_far (p := ⟨gb299, 2, none⟩) (Kd.R_far (p := ⟨gb299, 1, none⟩) (Kd.R_far (p := ⟨gb299, 0, none⟩) (Kd.R_types HO291.out BK299.out (by decide)) (fun _ hk => hk.2) (.string t295)) (fun _ hk => hk.2) (.string t296)) (fun _ hk => hk.2) (.string t297)) (fun _ h_ => h_.1)))); (case side2 => exact (Kd.R_reads' HO291.out).2.1); rintro e w91 ⟨v301, rfl, ho0, hb⟩; refine ⟨_, rfl, ?_⟩; have n0_ := Aside0.mk (Kd.R_below (by (with_reducible repeat (first | apply Kd.R_alloc | apply Kd.R_drewN | apply Kd.R_drew)); exact (Kd.R_mono (Kd.R_far (p := ⟨gb299, 2, none⟩) (Kd.R_far (p := ⟨gb299, 1, none⟩) (Kd.R_far (p := ⟨gb299, 0, none⟩) (Kd.R_types HO291.out BK299.out (by decide)) (fun _ hk => hk.2) (.string t295)) (fun _ hk => hk.2) (.string t296)) (fun _ hk => hk.2) (.string t297)) (fun _ h_ => h_.1))) hb); have n1_ := Aside0.mk (Kd.R_lower ho0 (below_size bwS)); have n2_ := Aside0.mk (blk_below (g := gb294) (o := .cells #[.slice Ao84 t289.length co84, .string t292] 25 (0, 0)) (by (with_reducible repeat (first | refine blk_drewN ?_ _ | refine blk_drew ?_ | refine blk_alloc ?_ _)); refine blk_far ?_ NB294_299.out _; (with_reducible repeat (first | refine blk_drewN ?_ _ | refine blk_drew ?_ | refine blk_alloc ?_ _)); refine blk_far ?_ NB294_299.out _; (with_reducible repeat (first | refine blk_drewN ?_ _ | refine blk_drew ?_ | refine blk_alloc ?_ _)); refine blk_far ?_ NB294_299.out _; (with_reducible repeat (first | refine blk_drewN ?_ _ | refine blk_drew ?_ | refine blk_alloc ?_ _)); exact BK294.out) hb); have n3_ := Aside0.mk (blk_below (g := gb299) (o := .cells #[.string t295, .string t296, .string t297] 53 (0, 0)) (by (with_reducible repeat (first | refine blk_drewN ?_ _ | refine blk_drew ?_ | refine blk_alloc ?_ _)); refine blk_put (cs := #[.string t295, .string t296, .string (⟨#[]⟩ : ByteArray)]) ?_ 2 _ rfl; (with_reducible repeat (first | refine blk_drewN ?_ _ | refine blk_drew ?_ | refine blk_alloc ?_ _)); refine blk_put (cs := #[.string t295, .string (⟨#[]⟩ : ByteArray), .string (⟨#[]⟩ : ByteArray)]) ?_ 1 _ rfl; (with_reducible repeat (first | refine blk_drewN ?_ _ | refine blk_drew ?_ | refine blk_alloc ?_ _)); refine blk_put (cs := #[.string (⟨#[]⟩ : ByteArray), .string (⟨#[]⟩ : ByteArray), .string (⟨#[]⟩ : ByteArray)]) ?_ 0 _ rfl; (with_reducible repeat (first | refine blk_drewN ?_ _ | refine blk_drew ?_ | refine blk_alloc ?_ _)); exact BK299.out) hb); have n4_ := Aside0.mk (below_step bwS hb); clear HO291; clear BK294; clear BK299; clear HB; have HO291 := n0_; have HO302 := n1_; have BK294 := n2_; have BK299 := n3_; have HB := n4_; clear n0_ n1_ n2_ n3_ n4_; (try clear hb); (try clear hb2); (try clear hk); (try clear hi); (try clear ho0)))
  go_ret
  exact ⟨by first | rfl | (simp [errW_none, errW_some] <;> rfl) | (simp [*, errW_none, errW_some] <;> rfl), bwS⟩

end Go.Proofs.YtbjbpgmjijeppaaGreatDoor.Fn
namespace Go.Proofs.YtbjbpgmjijeppaaGreatDoor.Fn
open Go.RowKit Go.Proofs.YtbjbpgmjijeppaaGreatDoorW.PrintWords Go.Proofs.YtbjbpgmjijeppaaGreatDoorW.PrintLast Go.Proofs.YtbjbpgmjijeppaaGreatDoorW.PrintMore
attribute [local go_sem] max2_int min2_int max_two min_two max_three min_three max_four min_four
set_option linter.unusedVariables false
set_option linter.unusedSimpArgs false

/-! ### head_Get: function 49 -/
def head_Get.l0 : Nat → ByteArray → List (S46) → Int → Int → Option (ByteArray × Bool)
 | 0, _, _, _, _ => none
 | k + 1, x1, x8, x9, x10 => if x10 < x9 then (if 0 ≤ x10 then (if x10 < (x8.length : Int) then ((head_same.f ((rd_T46 x8 x10).f0) x1).bind fun t424 => (if t424 = true then (some ((rd_T46 x8 x10).f1, true)) else (head_Get.l0 k x1 x8 x9 (wrap64 (x10 + 1))))) else (none)) else (none)) else (some ((⟨#[]⟩ : ByteArray), false))
def head_Get.f (k : Nat) (l0 : List (S46)) (a1 : ByteArray) : Option (ByteArray × Bool) := head_Get.l0 k a1 l0 (l0.length : Int) 0
set_option maxHeartbeats 8000000 in
set_option maxRecDepth 100000 in
theorem head_Get.calls (k : Nat) (A0 : Option Addr) (c0 : Nat) (l0 : List (S46)) (a1 : ByteArray) (r1 : ByteArray) (r2 : Bool) (w : World) (hr0 : Kd.C k46 w A0 l0.length l0) (hc0 : l0.length ≤ c0) (h : head_Get.f k l0 a1 = some (r1, r2)) :
  Calls Tryz.prog 49 #[.slice A0 l0.length c0, .string a1] w fun e w' => e = .returned (.tuple #[.string r1, .bool r2]) ∧ Below w.heap.size w w' := by
 have hu46 := Tryz.underlying46
 have HR0 := Aside0.mk hr0
 have HC0 := Aside0.mk hc0
 clear hr0 hc0
 have HB := Aside0.mk (Below.refl w.heap.size w)
 have H : (head_Get.l0 k a1 l0 (l0.length : Int) 0) = some (r1, r2) := h
 clear h
 have H' := Aside0.mk H
 clear H
 go_enter Tryz.func49, Tryz.ntmps49
 go_wp2
 go_loopg [10] k (fun kq v10 w' => ∃ (x10_1 : Int), v10 = .int .i64 x10_1 ∧ Aside0 (head_Get.l0 kq a1 l0 (l0.length : Int) x10_1 = some (r1, r2)) ∧ Aside0 (kq ≤ k) ∧ Aside0 (Below w.heap.size w w'))
 case atStart => exact ⟨(0), cl, H', ⟨Nat.le_refl _⟩, ⟨bw⟩⟩
 case round =>
  clear H'
  try clear p2
  obtain ⟨x10_1, rfl, HA, HK1, HB⟩ := hrel
  cases gk with
  | zero => exact absurd HA.out (by simp [head_Get.l0])
  | succ k1 =>
   have H := HA.out
   clear HA
   simp only [head_Get.l0] at H
   by_cases c3 : x10_1 < (l0.length : Int)
   ·rw [if_pos c3] at H
    have c3b0 : decide (x10_1 < (l0.length : Int)) = true := decide_eq_true c3
    clear c3
    by_cases c4 : 0 ≤ x10_1
    ·rw [if_pos c4] at H
     have c4b0 : decide (0 ≤ x10_1) = true := decide_eq_true c4
     clear c4
     by_cases c5 : x10_1 < (l0.length : Int)
     ·rw [if_pos c5] at H
      have c5b0 : decide (x10_1 < (l0.length : Int)) = true := decide_eq_true c5
      clear c5
      replace H := Option.bind_eq_some_iff.mp H
      obtain ⟨t424, A60, H⟩ := H
      replace H : (if t424 = true then (some ((rd_T46 l0 x10_1).f1, true)) else (head_Get.l0 k1 a1 l0 (l0.length : Int) (wrap64 (x10_1 + 1)))) = some (r1, r2) := H
      have A6 := Aside0.mk A60
      clear A60
      by_cases c7 : t424 = true
      ·subst c7
       have H1 : (some ((rd_T46 l0 x10_1).f1, true)) = some (r1, r2) := by rw [if_pos rfl] at H; exact H
       clear H
       have H := H1
       clear H1
       simp only [Option.some.injEq, Prod.mk.injEq] at H
       obtain ⟨rfl, rfl⟩ := H
       have p422 : 0 ≤ (x10_1 : Int) := od
       have q422 : x10_1 < (l0.length : Int) := od
       obtain ⟨ad422, e422, hx422_0, hx422_1⟩ := at_T46 HR0.out x10_1 p422 q422
       cases e422
       replace hx422_0 := (HB.out.cell (World.block_lt_of_cell? w _ hx422_0)).trans hx422_0
       replace hx422_1 := (HB.out.cell (World.block_lt_of_cell? w _ hx422_1)).trans hx422_1
       replace p422 := eq_true p422
       replace q422 := eq_true q422
       go_wp2_with (first | ((with_reducible refine gate_dst (N := 7) rfl ?_); refine box_event ?hg (N := 7) ?hd (cs := #[.string (⟨#[]⟩ : ByteArray), .string (⟨#[]⟩ : ByteArray)]) (t := 46) ?hr ?_; (case hd => rfl); (case hg => rfl); (case hr => first | (go_simp; done) | (go_simp; rfl)); intro gb423 hg w8 hbox hb; have n0_ := Aside0.mk (below_step bw hb); have n1_ := Aside0.mk (hbox); have n2_ := Aside0.mk ((by rw [hg]; exact (below_size bw) : w.heap.size ≤ gb423)); have n3_ := Aside0.mk ((by rw [hg]; exact (below_size bw) : w.heap.size ≤ gb423)); clear HB; have HB := n0_; have BK423 := n1_; have GW423 := n2_; have GE423 := n3_; clear n0_ n1_ n2_ n3_; clear hb hbox hg; have hcz9_0 : w8.cell? ⟨gb423, 0, none⟩ = some (.string (⟨#[]⟩ : ByteArray)) := (blk_cell BK423.out 0).trans rfl; have hcz9_1 : w8.cell? ⟨gb423, 1, none⟩ = some (.string (⟨#[]⟩ : ByteArray)) := (blk_cell BK423.out 1).trans rfl; have hfz9_0 := blk_frozen BK423.out 0; have hfz9_1 := blk_frozen BK423.out 1) | ((with_reducible refine gate_callee (f := 73) rfl ?_); refine goesL_ (some 17) rfl rfl Tryz.func73 (by kernel_rfl) rfl #[.string ((rd_T46 l0 x10_1).f0), .string a1] rfl am ?_; (with_reducible refine (head_same.calls ((rd_T46 l0 x10_1).f0) a1 true _ A6.out).mono ?_); rintro e w10 ⟨rfl, hb⟩; refine ⟨_, rfl, ?_⟩; have n0_ := Aside0.mk (blk_below (g := gb423) (o := .cells #[.string ((rd_T46 l0 x10_1).f0), .string ((rd_T46 l0 x10_1).f1)] 46 (0, 0)) (by (with_reducible repeat (first | refine blk_drewN ?_ _ | refine blk_drew ?_ | refine blk_alloc ?_ _)); refine blk_put (cs := #[.string ((rd_T46 l0 x10_1).f0), .string (⟨#[]⟩ : ByteArray)]) ?_ 1 _ rfl; (with_reducible repeat (first | refine blk_drewN ?_ _ | refine blk_drew ?_ | refine blk_alloc ?_ _)); refine blk_put (cs := #[.string (⟨#[]⟩ : ByteArray), .string (⟨#[]⟩ : ByteArray)]) ?_ 0 _ rfl; (with_reducible repeat (first | refine blk_drewN ?_ _ | refine blk_drew ?_ | refine blk_alloc ?_ _)); exact BK423.out) hb); have n1_ := Aside0.mk (below_step bwS hb); clear BK423; clear HB; have BK423 := n0_; have HB := n1_; clear n0_ n1_; (try clear hb); (try clear hb2); (try clear hk); (try clear hi); have hcz11_0 : w10.cell? ⟨gb423, 0, none⟩ = some (.string ((rd_T46 l0 x10_1).f0)) := (blk_cell BK423.out 0).trans rfl; have hcz11_1 : w10.cell? ⟨gb423, 1, none⟩ = some (.string ((rd_T46 l0 x10_1).f1)) := (blk_cell BK423.out 1).trans rfl; have hfz11_0 := blk_frozen BK423.out 0; have hfz11_1 := blk_frozen BK423.out 1))
       go_ret2
       exact ⟨by first | rfl | (simp [errW_none, errW_some] <;> rfl) | (simp [*, errW_none, errW_some] <;> rfl), bwS⟩
      ·replace c7 := Bool.eq_false_iff.mpr c7
       subst c7
       have H1 : (head_Get.l0 k1 a1 l0 (l0.length : Int) (wrap64 (x10_1 + 1))) = some (r1, r2) := by rw [if_neg (show ¬ (false = true) by decide)] at H; exact H
       clear H
       have H := H1
       clear H1
       have H' := Aside0.mk H
       clear H
       have p422 : 0 ≤ (x10_1 : Int) := od
       have q422 : x10_1 < (l0.length : Int) := od
       obtain ⟨ad422, e422, hx422_0, hx422_1⟩ := at_T46 HR0.out x10_1 p422 q422
       cases e422
       replace hx422_0 := (HB.out.cell (World.block_lt_of_cell? w _ hx422_0)).trans hx422_0
       replace hx422_1 := (HB.out.cell (World.block_lt_of_cell? w _ hx422_1)).trans hx422_1
       replace p422 := eq_true p422
       replace q422 := eq_true q422
       go_wp2_with (first | ((with_reducible refine gate_dst (N := 7) rfl ?_); refine box_event ?hg (N := 7) ?hd (cs := #[.string (⟨#[]⟩ : ByteArray), .string (⟨#[]⟩ : ByteArray)]) (t := 46) ?hr ?_; (case hd => rfl); (case hg => rfl); (case hr => first | (go_simp; done) | (go_simp; rfl)); intro gb423 hg w12 hbox hb; have n0_ := Aside0.mk (below_step bw hb); have n1_ := Aside0.mk (hbox); have n2_ := Aside0.mk ((by rw [hg]; exact (below_size bw) : w.heap.size ≤ gb423)); have n3_ := Aside0.mk ((by rw [hg]; exact (below_size bw) : w.heap.size ≤ gb423)); clear HB; have HB := n0_; have BK423 := n1_; have GW423 := n2_; have GE423 := n3_; clear n0_ n1_ n2_ n3_; clear hb hbox hg; have hcz13_0 : w12.cell? ⟨gb423, 0, none⟩ = some (.string (⟨#[]⟩ : ByteArray)) := (blk_cell BK423.out 0).trans rfl; have hcz13_1 : w12.cell? ⟨gb423, 1, none⟩ = some (.string (⟨#[]⟩ : ByteArray)) := (blk_cell BK423.out 1).trans rfl; have hfz13_0 := blk_frozen BK423.out 0; have hfz13_1 := blk_frozen BK423.out 1) | ((with_reducible refine gate_callee (f := 73) rfl ?_); refine goesL_ (some 17) rfl rfl Tryz.func73 (by kernel_rfl) rfl #[.string ((rd_T46 l0 x10_1).f0), .string a1] rfl am ?_; (with_reducible refine (head_same.calls ((rd_T46 l0 x10_1).f0) a1 false _ A6.out).mono ?_); rintro e w14 ⟨rfl, hb⟩; refine ⟨_, rfl, ?_⟩; have n0_ := Aside0.mk (blk_below (g := gb423) (o := .cells #[.string ((rd_T46 l0 x10_1).f0), .string ((rd_T46 l0 x10_1).f1)] 46 (0, 0)) (by (with_reducible repeat (first | refine blk_drewN ?_ _ | refine blk_drew ?_ | refine blk_alloc ?_ _)); refine blk_put (cs := #[.string ((rd_T46 l0 x10_1).f0), .string (⟨#[]⟩ : ByteArray)]) ?_ 1 _ rfl; (with_reducible repeat (first | refine blk_drewN ?_ _ | refine blk_drew ?_ | refine blk_alloc ?_ _)); refine blk_put (cs := #[.string (⟨#[]⟩ : ByteArray), .string (⟨#[]⟩ : ByteArray)]) ?_ 0 _ rfl; (with_reducible repeat (first | refine blk_drewN ?_ _ | refine blk_drew ?_ | refine blk_alloc ?_ _)); exact BK423.out) hb); have n1_ := Aside0.mk (below_step bwS hb); clear BK423; clear HB; have BK423 := n0_; have HB := n1_; clear n0_ n1_; (try clear hb); (try clear hb2); (try clear hk); (try clear hi)))
       go_roundg k1
       case measure => have := HK1.out; omega
       case rel => exact ⟨(wrap64 (x10_1 + 1)), cl, H', ⟨by have := HK1.out; omega⟩, ⟨bwS⟩⟩
     ·rw [if_neg c5] at H
      exact absurd H (by simp)
    ·rw [if_neg c4] at H
     exact absurd H (by simp)
   ·rw [if_neg c3] at H
    have c3b0 : decide (x10_1 < (l0.length : Int)) = false := decide_eq_false c3
    clear c3
    simp only [Option.some.injEq, Prod.mk.injEq] at H
    obtain ⟨rfl, rfl⟩ := H
    go_wp2
    go_ret2
    exact ⟨by first | rfl | (simp [errW_none, errW_some] <;> rfl) | (simp [*, errW_none, errW_some] <;> rfl), bw⟩

end Go.Proofs.YtbjbpgmjijeppaaGreatDoor.Fn
namespace Go.Proofs.YtbjbpgmjijeppaaGreatDoor.Fn
open Go.RowKit Go.Proofs.YtbjbpgmjijeppaaGreatDoorW.PrintWords Go.Proofs.YtbjbpgmjijeppaaGreatDoorW.PrintLast Go.Proofs.YtbjbpgmjijeppaaGreatDoorW.PrintMore
attribute [local go_sem] max2_int min2_int max_two min_two max_three min_three max_four min_four
set_option linter.unusedVariables false
set_option linter.unusedSimpArgs false

/-! ### msg_Message_Get: function 21 -/
def msg_Message_Get.f (k : Nat) (l0_0 : List (S46)) (a0_1 : ByteArray) (a1 : ByteArray) : Option (ByteArray) := (head_Get.f k l0_0 a1).bind fun bt426 => (some bt426.1)
set_option maxHeartbeats 8000000 in
set_option maxRecDepth 100000 in
theorem msg_Message_Get.calls (k : Nat) (A0_0 : Option Addr) (c0_0 : Nat) (l0_0 : List (S46)) (a0_1 : ByteArray) (a1 : ByteArray) (r : ByteArray) (w : World) (hr0_0 : Kd.C k46 w A0_0 l0_0.length l0_0) (hc0_0 : l0_0.length ≤ c0_0) (h : msg_Message_Get.f k l0_0 a0_1 a1 = some r) :
  Calls Tryz.prog 21 #[.agg #[.slice A0_0 l0_0.length c0_0, .string a0_1], .string a1] w fun e w' => e = .returned (.string r) ∧ Below w.heap.size w w' := by
 have hu25 := Tryz.underlying25
 have HR0_0 := Aside0.mk hr0_0
 have HC0_0 := Aside0.mk hc0_0
 clear hr0_0 hc0_0
 have HB := Aside0.mk (Below.refl w.heap.size w)
 have H : ((head_Get.f k l0_0 a1).bind fun bt426 => (some bt426.1)) = some r := h
 clear h
 replace H := Option.bind_eq_some_iff.mp H
 obtain ⟨⟨t426, t427⟩, A30, H⟩ := H
 replace H : (some t426) = some r := H
 have A3 := Aside0.mk A30
 clear A30
 obtain rfl := Option.some.inj H
 go_enter Tryz.func21, Tryz.ntmps21
 go_wp2_with (first | ((with_reducible refine gate_dst (N := 2) rfl ?_); refine box_event ?hg (N := 2) ?hd (cs := #[.slice A0_0 l0_0.length c0_0, .string a0_1]) (t := 25) ?hr ?_; (case hd => rfl); (case hg => rfl); (case hr => first | (go_simp; done) | (go_simp; rfl)); intro gb425 hg w4 hbox hb; have n0_ := Aside0.mk (below_step bw hb); have n1_ := Aside0.mk (hbox); have n2_ := Aside0.mk ((by rw [hg]; exact (below_size bw) : w.heap.size ≤ gb425)); have n3_ := Aside0.mk ((by rw [hg]; exact (below_size bw) : w.heap.size ≤ gb425)); clear HB; have HB := n0_; have BK425 := n1_; have GW425 := n2_; have GE425 := n3_; clear n0_ n1_ n2_ n3_; clear hb hbox hg; have hcz5_0 : w4.cell? ⟨gb425, 0, none⟩ = some (.slice A0_0 l0_0.length c0_0) := (blk_cell BK425.out 0).trans rfl; have hcz5_1 : w4.cell? ⟨gb425, 1, none⟩ = some (.string a0_1) := (blk_cell BK425.out 1).trans rfl; have hfz5_0 := blk_frozen BK425.out 0; have hfz5_1 := blk_frozen BK425.out 1) | ((with_reducible refine gate_callee (f := 49) rfl ?_); refine goesL_ (some 11) rfl rfl Tryz.func49 (by kernel_rfl) rfl #[.slice A0_0 l0_0.length c0_0, .string a1] rfl am ?_; (with_reducible refine (head_Get.calls k _ _ l0_0 a1 t426 t427 _ ?side1 ?side2 A3.out).mono ?_); (case side1 => repeat (first | exact (Kd.C_below HR0_0.out HB.out) | (with_reducible refine Kd.C_alloc ?_ _) | (with_reducible refine Kd.C_drewN ?_ _) | (with_reducible refine Kd.C_drew ?_))); (case side2 => exact HC0_0.out); rintro e w6 ⟨rfl, hb⟩; refine ⟨_, rfl, ?_⟩; have n0_ := Aside0.mk (blk_below (g := gb425) (o := .cells #[.slice A0_0 l0_0.length c0_0, .string a0_1] 25 (0, 0)) bk hb); have n1_ := Aside0.mk (below_step bwS hb); clear BK425; clear HB; have BK425 := n0_; have HB := n1_; clear n0_ n1_; (try clear hb); (try clear hb2); (try clear hk); (try clear hi)))
 go_ret
 exact ⟨by first | rfl | (simp [errW_none, errW_some] <;> rfl) | (simp [*, errW_none, errW_some] <;> rfl), bwS⟩

end Go.Proofs.YtbjbpgmjijeppaaGreatDoor.Fn
namespace Go.Proofs.YtbjbpgmjijeppaaGreatDoor.Fn
open Go.RowKit Go.Proofs.YtbjbpgmjijeppaaGreatDoorW.PrintWords Go.Proofs.YtbjbpgmjijeppaaGreatDoorW.PrintLast Go.Proofs.YtbjbpgmjijeppaaGreatDoorW.PrintMore
attribute [local go_sem] max2_int min2_int max_two min_two max_three min_three max_four min_four
set_option linter.unusedVariables false
set_option linter.unusedSimpArgs false

/-! ### bulletinlaw16_MsgLong: function 6 -/
mutual
def bulletinlaw16_MsgLong.j0 : Nat → Int → ByteArray → Bool → Option (Bool)
 | 0, _, _, _ => none
 | k + 1, x0, x1, x19 => if x19 = true then ((bulletinlaw16_works.f k).bind fun t428 => (some t428)) else (if 0 ≤ x0 then (if (x0 : Int).toNat ≤ 281474976710656 then ((some (List.replicate (x0 : Int).toNat 0 : List Int)).bind fun y429 => (bulletinlaw16_MsgLong.l0 k x0 x1 y429 (y429.length : Int) 0)) else (none)) else (none))
def bulletinlaw16_MsgLong.l0 : Nat → Int → ByteArray → List Int → Int → Int → Option (Bool)
 | 0, _, _, _, _, _ => none
 | k + 1, x0, x1, x5, x24, x25 => if x25 < x24 then (if 0 ≤ x25 then (if x25 < (x5.length : Int) then (bulletinlaw16_MsgLong.l0 k x0 x1 (x5.set (x25 : Int).toNat 120) x24 (wrap64 (x25 + 1))) else (none)) else (none)) else (if 2 ≤ (x5.length : Int) then ((some (x5.drop 2 : List Int)).bind fun y433 => (if 2 + (strOfNums y433).size ≤ 9223372036854775807 then ((msg_Parse.f k ((⟨#[13, 10]⟩ : ByteArray) ++ (strOfNums y433))).bind fun bt437 => (if x0 > 65536 then (if bt437.2.2 = 2 then (if bt437.2.1.toList = ([] : List UInt8) then (if (bt437.1.length : Int) = 0 then ((bulletinlaw16_works.f k).bind fun t443 => (some t443)) else (some false)) else (some false)) else (some false)) else (if bt437.2.2 = 0 then (if (bt437.2.1.size : Int) = (wrap64 (x0 - 2)) then (if (bt437.1.length : Int) = 0 then ((msg_Message_Get.f k bt437.1 bt437.2.1 x1).bind fun t444 => (if t444.toList = ([] : List UInt8) then ((bulletinlaw16_works.f k).bind fun t445 => (some t445)) else (some false))) else (some false)) else (some false)) else (some false)))) else (none))) else (none))
end
def bulletinlaw16_MsgLong.f (k : Nat) (a0 : Int) (a1 : ByteArray) : Option (Bool) := if a0 < 4 then (bulletinlaw16_MsgLong.j0 k a0 a1 true) else (if a0 > 66000 then (bulletinlaw16_MsgLong.j0 k a0 a1 true) else (bulletinlaw16_MsgLong.j0 k a0 a1 (decide ((a1.size : Int) > 100))))
set_option maxHeartbeats 8000000 in
set_option maxRecDepth 100000 in
theorem bulletinlaw16_MsgLong.calls (k : Nat) (a0 : Int) (a1 : ByteArray) (r : Bool) (w : World) (hG : Glob w) (h : bulletinlaw16_MsgLong.f k a0 a1 = some r) :
  Calls Tryz.prog 6 #[.int .i64 a0, .string a1] w fun e w' => e = .returned (.bool r) ∧ Below w.heap.size w w' := by
 have hu25 := Tryz.underlying25
 have HB := Aside0.mk (Below.refl w.heap.size w)
 have H : (if a0 < 4 then (bulletinlaw16_MsgLong.j0 k a0 a1 true) else (if a0 > 66000 then (bulletinlaw16_MsgLong.j0 k a0 a1 true) else (bulletinlaw16_MsgLong.j0 k a0 a1 (decide ((a1.size : Int) > 100))))) = some r := h
 clear h
 have HC3 := Aside0.mk H
 clear H
 go_enter Tryz.func6, Tryz.ntmps6
 go_upto_region 1 with (fail)
 go_cut [19] (fun v19 wc => ∃ (kq : Nat) (x19_2 : Bool), v19 = .bool x19_2 ∧ Aside0 (bulletinlaw16_MsgLong.j0 kq a0 a1 x19_2 = some r) ∧ Aside0 (kq ≤ k) ∧ Aside0 (Below w.heap.size w wc))
 case first =>
  have H := HC3.out
  clear HC3
  by_cases c4 : a0 < 4
  ·rw [if_pos c4] at H
   have c4b0 : decide (a0 < 4) = true := decide_eq_true c4
   clear c4
   (first | rw [c4b0] | (simp only [i64_w, i32_w]; rw [c4b0]) | skip)
   have H' := Aside0.mk H
   clear H
   go_wp2
   go_meet
   case rel => exact ⟨_, (true), cl, H', ⟨by first | omega | exact Nat.le_refl _⟩, ⟨bw⟩⟩
  ·rw [if_neg c4] at H
   have c4b0 : decide (a0 < 4) = false := decide_eq_false c4
   clear c4
   (first | rw [c4b0] | (simp only [i64_w, i32_w]; rw [c4b0]) | skip)
   by_cases c5 : a0 > 66000
   ·rw [if_pos c5] at H
    have c5b0 : decide (66000 < a0) = true := decide_eq_true c5
    clear c5
    have H' := Aside0.mk H
    clear H
    go_wp2
    go_meet
    case rel => exact ⟨_, (true), cl, H', ⟨by first | omega | exact Nat.le_refl _⟩, ⟨bw⟩⟩
   ·rw [if_neg c5] at H
    have c5b0 : decide (66000 < a0) = false := decide_eq_false c5
    clear c5
    have H' := Aside0.mk H
    clear H
    go_wp2
    go_meet
    case rel => exact ⟨_, (decide ((a1.size : Int) > 100)), cl, H', ⟨by first | omega | exact Nat.le_refl _⟩, ⟨bw⟩⟩
 case rest =>
  clear HC3
  try clear p2
  try clear c4
  try clear c4b0
  try clear c5
  try clear c5b0
  obtain ⟨kq, x19_2, rfl, HA, HJ2, HB⟩ := hcut
  cases kq with
  | zero => exact absurd HA.out (by simp [bulletinlaw16_MsgLong.j0])
  | succ kj2 =>
   have H := HA.out
   clear HA
   simp only [bulletinlaw16_MsgLong.j0] at H
   by_cases c6 : x19_2 = true
   ·subst c6
    have H1 : ((bulletinlaw16_works.f kj2).bind fun t428 => (some t428)) = some r := by rw [if_pos rfl] at H; exact H
    clear H
    have H := H1
    clear H1
    replace H := Option.bind_eq_some_iff.mp H
    obtain ⟨t428, A70, H⟩ := H
    replace H : (some t428) = some r := H
    have A7 := Aside0.mk A70
    clear A70
    obtain rfl := Option.some.inj H
    go_wp2_with (first | ((with_reducible refine gate_callee (f := 9) rfl ?_); refine goesL_ (some 20) rfl rfl Tryz.func9 (by kernel_rfl) rfl #[] rfl am ?_; (with_reducible refine (bulletinlaw16_works.calls (hG := by first | exact hG | exact Glob.below hG (by first | exact HB.out | (repeat (first | (with_reducible first | exact HB.out | apply below_alloc | apply pw_below_drewN | apply below_drew1 | refine below_set ?_ GE442.out) | exact HB.out))) | exact Glob.drawn hG (by repeat (first | exact Drawn0.refl _ | apply Drawn0.step))) kj2  t428 _ A7.out).mono ?_); rintro e w8 ⟨rfl, hb⟩; refine ⟨_, rfl, ?_⟩; have n0_ := Aside0.mk (below_step bw hb); clear HB; have HB := n0_; clear n0_; (try clear hb); (try clear hb2); (try clear hk); (try clear hi)))
    go_ret
    exact ⟨by first | rfl | (simp [errW_none, errW_some] <;> rfl) | (simp [*, errW_none, errW_some] <;> rfl), bw⟩
   ·replace c6 := Bool.eq_false_iff.mpr c6
    subst c6
    have H1 : (if 0 ≤ a0 then (if (a0 : Int).toNat ≤ 281474976710656 then ((some (List.replicate (a0 : Int).toNat 0 : List Int)).bind fun y429 => (bulletinlaw16_MsgLong.l0 kj2 a0 a1 y429 (y429.length : Int) 0)) else (none)) else (none)) = some r := by rw [if_neg (show ¬ (false = true) by decide)] at H; exact H
    clear H
    have H := H1
    clear H1
    by_cases c9 : 0 ≤ a0
    ·rw [if_pos c9] at H
     have c9b0 := eq_true c9
     have c9b1 : decide (0 ≤ a0) = true := decide_eq_true c9
     clear c9
     by_cases c10 : (a0 : Int).toNat ≤ 281474976710656
     ·rw [if_pos c10] at H
      have c10b0 := eq_true c10
      have c10b1 : decide ((a0 : Int).toNat ≤ 281474976710656) = true := decide_eq_true c10
      clear c10
      obtain ⟨y429, hy429⟩ : ∃ y_ : List Int, y_ = (List.replicate (a0 : Int).toNat 0) := ⟨_, rfl⟩
      replace H : (bulletinlaw16_MsgLong.l0 kj2 a0 a1 y429 (y429.length : Int) 0) = some r := by first | (rw [hy429]; with_reducible exact H) | (have H2_ := (Option.bind_some _ _).symm.trans H; rw [hy429]; with_reducible exact H2_) | (have H2_ := (Option.bind_some _ _).symm.trans H; with_reducible exact H2_) | with_reducible exact H | (rw [hy429]; exact H) | exact H
      have Ny429 := Aside0.mk hy429
      clear hy429
      have H' := Aside0.mk H
      clear H
      go_wp2_with (first | ((with_reducible refine gate_dst (N := 22) rfl ?_); (try (refine gate_guard (by rfl) ?_; dsimp only)); refine Kd.R_make (Kd.int .u8) _ 5 rfl (N := 22) rfl 47 _ _ rfl a0 rfl rfl Tryz.underlying47 (.int .u8 0) 1 info5 rfl (by decide) (by omega) 0 (ok := fun _ => True) (okp := fun _ => True) rfl (fun _ hk => hk) trivial (od) (Nat.le_trans (Nat.mul_le_mul_right _ (od : a0.toNat ≤ 281474976710656)) (by omega)) (Below.refl _ _) (Nat.le_refl _) ?_; intro v430 w11 ho12 hb hg_ hnew_; clear hg_ hnew_; (first | rw [← Ny429.out] at ho12 | (simp only [Int.reduceToNat] at ho12; rw [← Ny429.out] at ho12)); have n0_ := Aside0.mk (Kd.R_lower ho12 (below_size bw)); have n1_ := Aside0.mk (below_step bw hb); clear HB; have HO431 := n0_; have HB := n1_; clear n0_ n1_; clear hb ho12; obtain ⟨Ao13, co13, eo13⟩ := Kd.R_slice HO431.out; subst eo13))
      go_loopg [25] kj2 (fun kq v25 w' => ∃ (x5_2 : List Int) (x25_2 : Int), v25 = .int .i64 x25_2 ∧ Aside0 (bulletinlaw16_MsgLong.l0 kq a0 a1 x5_2 (y429.length : Int) x25_2 = some r) ∧ Aside0 (kq ≤ kj2) ∧ Aside0 (Kd.R (Kd.int .u8) 5 w' w.heap.size (fun _ => True) (.slice Ao13 y429.length co13) x5_2) ∧ Aside0 (Below w.heap.size w w'))
      case atStart => exact ⟨(y429), (0), cl, H', ⟨Nat.le_refl _⟩, ⟨by (with_reducible repeat (first | apply Kd.R_alloc | apply Kd.R_drewN | apply Kd.R_drew)); exact HO431.out⟩, ⟨bw⟩⟩
      case round =>
       clear H'
       try clear c1
       try clear p2
       try clear c4
       try clear c4b0
       try clear c5
       try clear c5b0
       try clear c6
       try clear c9
       try clear c9b0
       try clear c9b1
       try clear c10
       try clear c10b0
       try clear c10b1
       try clear p2
       obtain ⟨x5_2, x25_2, rfl, HA, HK2, HO_5, HB⟩ := hrel
       have hl5_2 := (Kd.R_reads' HO_5.out).1
       rw [hl5_2] at HO_5
       (try simp only [hl5_2])
       cases gk with
       | zero => exact absurd HA.out (by simp [bulletinlaw16_MsgLong.l0])
       | succ k2 =>
        have H := HA.out
        clear HA
        simp only [bulletinlaw16_MsgLong.l0] at H
        by_cases c14 : x25_2 < (y429.length : Int)
        ·rw [if_pos c14] at H
         have c14b0 : decide (x25_2 < (y429.length : Int)) = true := decide_eq_true c14
         clear c14
         by_cases c15 : 0 ≤ x25_2
         ·rw [if_pos c15] at H
          have c15b0 : decide (0 ≤ x25_2) = true := decide_eq_true c15
          clear c15
          by_cases c16 : x25_2 < (x5_2.length : Int)
          ·rw [if_pos c16] at H
           have c16b0 : decide (x25_2 < (x5_2.length : Int)) = true := decide_eq_true c16
           clear c16
           obtain ⟨y432, hy432⟩ : ∃ y_ : List Int, y_ = (x5_2.set (x25_2 : Int).toNat 120) := ⟨_, rfl⟩
           replace H : (bulletinlaw16_MsgLong.l0 k2 a0 a1 y432 (y429.length : Int) (wrap64 (x25_2 + 1))) = some r := by first | (rw [hy432]; with_reducible exact H) | (have H2_ := (Option.bind_some _ _).symm.trans H; rw [hy432]; with_reducible exact H2_) | (have H2_ := (Option.bind_some _ _).symm.trans H; with_reducible exact H2_) | with_reducible exact H | (rw [hy432]; exact H) | exact H
           have Ny432 := Aside0.mk hy432
           clear hy432
           have H' := Aside0.mk H
           clear H
           have p17 : 0 ≤ (x25_2 : Int) := od
           have q17 : (x25_2 : Int) < ((x5_2.length : Int) : Int) := od
           obtain ⟨go17, co17, eo17, gb17, gl17, cl17, HG17⟩ := Kd.R_form HO_5.out (by omega)
           (first | cases eo17 | (injection eo17 with ea_ en_ ec_; (first | subst ea_ | (injection ea_ with ea_; subst ea_)); subst ec_; clear en_))
           have GB17 := Aside0.mk gb17
           have GG17 := Aside0.mk HG17
           clear gb17 gl17 HG17
           obtain ⟨hx17_0, hf17_0⟩ := Kd.R_celln 0 HO_5.out (x25_2 : Int) p17 q17
           replace p17 := eq_true p17
           replace q17 := eq_true q17
           have HP18 := Kd.R_putg HO_5.out (x25_2 : Int) 120
           go_wp2_with (first | ((with_reducible refine gate_store (t := 5) (p := 30) rfl ?_); refine store_event (t := 5) (p := 30) (v := ?vo_w19) (w1 := (wr.setCell ⟨go17, (x25_2 : Int).toNat, none⟩ (.int .u8 120))) ?hg ?ho ?hn ?hr ?_; (case ho => rfl); (case hg => rfl); (case hn => rfl); (case hr => first | (go_simp; done) | (go_simp; rfl)); intro w19 hw; have hg : wr.grownBy w19 (some go17) := (by rw [hw]; exact HP18.2); have hp_ : Kd.R (Kd.int .u8) 5 w19 w.heap.size (fun _ => True) (.slice (some ⟨go17, 0, none⟩) x5_2.length co13) y432 := (by rw [hw, Ny432.out]; exact HP18.1); clear HP18; have n0_ := Aside0.mk (hp_); have n1_ := Aside0.mk ((by rw [hw]; exact below_set (HB.out) GB17.out : Below w.heap.size w w19)); clear HO_5; clear HB; have HO_5 := n0_; have HB := n1_; clear n0_ n1_; clear hg hw hp_))
           (try simp only [← hl5_2])
           go_roundg k2
           case measure => have := HJ2.out; have := HK2.out; omega
           case rel => exact ⟨(y432), (wrap64 (x25_2 + 1)), cl, H', ⟨by have := HJ2.out; have := HK2.out; omega⟩, ⟨by (try simp only [hl5_2]); (with_reducible repeat (first | apply Kd.R_alloc | apply Kd.R_drewN | apply Kd.R_drew)); exact HO_5.out⟩, ⟨bw⟩⟩
          ·rw [if_neg c16] at H
           exact absurd H (by simp)
         ·rw [if_neg c15] at H
          exact absurd H (by simp)
        ·rw [if_neg c14] at H
         have c14b0 : decide (x25_2 < (y429.length : Int)) = false := decide_eq_false c14
         (try simp only [hl5_2] at c14b0)
         clear c14
         by_cases c20 : 2 ≤ (x5_2.length : Int)
         ·rw [if_pos c20] at H
          have c20b0 := eq_true c20
          have c20b1 : decide (2 ≤ (x5_2.length : Int)) = true := decide_eq_true c20
          clear c20
          obtain ⟨y433, hy433⟩ : ∃ y_ : List Int, y_ = (x5_2.drop 2) := ⟨_, rfl⟩
          replace H : (if 2 + (strOfNums y433).size ≤ 9223372036854775807 then ((msg_Parse.f k2 ((⟨#[13, 10]⟩ : ByteArray) ++ (strOfNums y433))).bind fun bt437 => (if a0 > 65536 then (if bt437.2.2 = 2 then (if bt437.2.1.toList = ([] : List UInt8) then (if (bt437.1.length : Int) = 0 then ((bulletinlaw16_works.f k2).bind fun t443 => (some t443)) else (some false)) else (some false)) else (some false)) else (if bt437.2.2 = 0 then (if (bt437.2.1.size : Int) = (wrap64 (a0 - 2)) then (if (bt437.1.length : Int) = 0 then ((msg_Message_Get.f k2 bt437.1 bt437.2.1 a1).bind fun t444 => (if t444.toList = ([] : List UInt8) then ((bulletinlaw16_works.f k2).bind fun t445 => (some t445)) else (some false))) else (some false)) else (some false)) else (some false)))) else (none)) = some r := by first | (rw [hy433]; with_reducible exact H) | (have H2_ := (Option.bind_some _ _).symm.trans H; rw [hy433]; with_reducible exact H2_) | (have H2_ := (Option.bind_some _ _).symm.trans H; with_reducible exact H2_) | with_reducible exact H | (rw [hy433]; exact H) | exact H
          have Ny433 := Aside0.mk hy433
          clear hy433
          by_cases c21 : 2 + (strOfNums y433).size ≤ 9223372036854775807
          ·rw [if_pos c21] at H
           have c21b0 := eq_true c21
           have c21b1 : decide (2 + (strOfNums y433).size ≤ 9223372036854775807) = true := decide_eq_true c21
           try have c21b2 : (9223372036854775807 < 2 + (strOfNums y433).size) = False := eq_false (Nat.not_lt.2 c21)
           replace H := Option.bind_eq_some_iff.mp H
           obtain ⟨⟨t437, t440, t441⟩, A220, H⟩ := H
           replace H : (if a0 > 65536 then (if t441 = 2 then (if t440.toList = ([] : List UInt8) then (if (t437.length : Int) = 0 then ((bulletinlaw16_works.f k2).bind fun t443 => (some t443)) else (some false)) else (some false)) else (some false)) else (if t441 = 0 then (if (t440.size : Int) = (wrap64 (a0 - 2)) then (if (t437.length : Int) = 0 then ((msg_Message_Get.f k2 t437 t440 a1).bind fun t444 => (if t444.toList = ([] : List UInt8) then ((bulletinlaw16_works.f k2).bind fun t445 => (some t445)) else (some false))) else (some false)) else (some false)) else (some false))) = some r := H
           have A22 := Aside0.mk A220
           clear A220
           by_cases c23 : a0 > 65536
           ·rw [if_pos c23] at H
            have c23b0 : decide (65536 < a0) = true := decide_eq_true c23
            clear c23
            by_cases c24 : t441 = 2
            ·rw [if_pos c24] at H
             have c24b0 : (t441 == 2) = true := beq_iff_eq.mpr c24
             have c24b1 : (t441 != 2) = false := bne_eq_false_iff_eq.mpr c24
             clear c24
             by_cases c25 : t440.toList = ([] : List UInt8)
             ·rw [if_pos c25] at H
              have c25b0 : (t440.toList == ([] : List UInt8)) = true := beq_iff_eq.mpr c25
              have c25b1 : (t440.toList != ([] : List UInt8)) = false := bne_eq_false_iff_eq.mpr c25
              clear c25
              by_cases c26 : (t437.length : Int) = 0
              ·rw [if_pos c26] at H
               have c26b0 : ((t437.length : Int) == 0) = true := beq_iff_eq.mpr c26
               have c26b1 : ((t437.length : Int) != 0) = false := bne_eq_false_iff_eq.mpr c26
               clear c26
               replace H := Option.bind_eq_some_iff.mp H
               obtain ⟨t443, A270, H⟩ := H
               replace H : (some t443) = some r := H
               have A27 := Aside0.mk A270
               clear A270
               obtain rfl := Option.some.inj H
               have q28 : (2 : Int) ≤ ((x5_2.length : Int) : Int) := od
               obtain ⟨i028, hi028, _, hsz28, _⟩ := info_parts info5
               have hroom28 : x5_2.length ≤ co13 := (Kd.R_reads' HO_5.out).2.1
               have hC28 : Kd.C (Kd.int .u8) _ Ao13 x5_2.length x5_2 := (Kd.R_reads' HO_5.out).2.2
               have hcut28 := cut_from (P := Tryz.prog) 47 5 .i64 Tryz.underlying47 hi028 1 hsz28 Ao13 x5_2.length co13 2 (by omega) q28
               have hr28 := Kd.C_drop (m := (2 : Int).toNat) (c := co13) hC28 (by omega) hroom28
               obtain ⟨A28, hA28⟩ : ∃ A1, A1 = (if co13 = (2 : Int).toNat then Ao13 else (Ao13 : Option Addr).map (·.add ((2 : Int).toNat * 1))) := ⟨_, rfl⟩
               obtain ⟨c28, hc28⟩ : ∃ c1, c1 = co13 - (2 : Int).toNat := ⟨_, rfl⟩
               have hy28 : y433.length = x5_2.length - (2 : Int).toNat := (by rw [Ny433.out, List.length_drop] <;> omega)
               rw [show (x5_2).drop (2 : Int).toNat = y433 from Ny433.out.symm] at hr28
               replace hr28 : Kd.C (Kd.int .u8) _ A28 y433.length y433 := (by rw [hA28]; exact hr28)
               rw [← hy28, ← hA28, ← hc28] at hcut28
               have HR436 := Aside0.mk hr28
               have HC436 := Aside0.mk (show y433.length ≤ c28 from by rw [hy28, hc28]; exact Nat.sub_le_sub_right hroom28 _)
               clear hr28 hC28 hroom28 hi028 hsz28 hc28
               have KY28 := Aside0.mk hy28
               have KA28 := Aside0.mk hA28
               clear hy28 hA28
               have KL28 := Aside0.mk (show 2 ≤ x5_2.length from by omega)
               replace q28 := eq_true q28
               have hcv29 := Kd.C_string (P := Tryz.prog) (A := A28) (c := c28) Tryz.underlying47 Tryz.underlying5 Tryz.underlying9 (by repeat (first | (with_reducible exact HR436.out) | (with_reducible refine Kd.C_alloc ?_ _) | (with_reducible refine Kd.C_drewN ?_ _) | (with_reducible refine Kd.C_drew ?_) | exact HR436.out))
               go_wp2_with (first | ((with_reducible refine gate_callee (f := 10) rfl ?_); refine goesL_ (some 37) rfl rfl Tryz.func10 (by kernel_rfl) rfl #[.string ((⟨#[13, 10]⟩ : ByteArray) ++ (strOfNums y433))] rfl am ?_; (with_reducible refine (msg_Parse.calls (hG := by first | exact hG | exact Glob.below hG (by first | exact HB.out | (repeat (first | (with_reducible first | exact HB.out | apply below_alloc | apply pw_below_drewN | apply below_drew1 | refine below_set ?_ GE442.out) | exact HB.out))) | exact Glob.drawn hG (by repeat (first | exact Drawn0.refl _ | apply Drawn0.step))) k2 ((⟨#[13, 10]⟩ : ByteArray) ++ (strOfNums y433)) t437 t440 t441 _ A22.out).mono ?_); rintro e w30 ⟨v438, rfl, ho0, hb⟩; refine ⟨_, rfl, ?_⟩; have n0_ := Aside0.mk (Kd.R_below (by (with_reducible repeat (first | apply Kd.R_alloc | apply Kd.R_drewN | apply Kd.R_drew)); exact HO_5.out) hb); have n1_ := Aside0.mk (Kd.R_lower ho0 (below_size bw)); have n2_ := Aside0.mk (Kd.C_below (by repeat (first | (with_reducible exact HR436.out) | (with_reducible refine Kd.C_alloc ?_ _) | (with_reducible refine Kd.C_drewN ?_ _) | (with_reducible refine Kd.C_drew ?_) | exact HR436.out)) hb); have n3_ := Aside0.mk (below_step bw hb); clear HO_5; clear HR436; clear HB; have HO_5 := n0_; have HO439 := n1_; have HR436 := n2_; have HB := n3_; clear n0_ n1_ n2_ n3_; (try clear hb); (try clear hb2); (try clear hk); (try clear hi); (try clear ho0)) | ((with_reducible refine gate_dst (N := 7) rfl ?_); (try (refine gate_guard (by rfl) ?_; dsimp only)); refine box_event ?hg (N := 7) ?hd (cs := #[.slice none 0 0, .string (⟨#[]⟩ : ByteArray)]) (t := 25) ?hr ?_; (case hd => rfl); (case hg => rfl); (case hr => first | (go_simp; done) | (go_simp; rfl)); intro gb442 hg w31 hbox hb; have n0_ := Aside0.mk (Kd.R_below (by (with_reducible repeat (first | apply Kd.R_alloc | apply Kd.R_drewN | apply Kd.R_drew)); exact HO_5.out) hb); have n1_ := Aside0.mk (Kd.R_below (by (with_reducible repeat (first | apply Kd.R_alloc | apply Kd.R_drewN | apply Kd.R_drew)); exact HO439.out) hb); have n2_ := Aside0.mk (Kd.C_below (by repeat (first | (with_reducible exact HR436.out) | (with_reducible refine Kd.C_alloc ?_ _) | (with_reducible refine Kd.C_drewN ?_ _) | (with_reducible refine Kd.C_drew ?_) | exact HR436.out)) hb); have n3_ := Aside0.mk (below_step bw hb); have n4_ := Aside0.mk (hbox); have n5_ := Aside0.mk ((by rw [hg]; exact (below_size bw) : w.heap.size ≤ gb442)); have n6_ := Aside0.mk ((by rw [hg]; exact (below_size bw) : w.heap.size ≤ gb442)); clear HO_5; clear HO439; clear HR436; clear HB; have HO_5 := n0_; have HO439 := n1_; have HR436 := n2_; have HB := n3_; have BK442 := n4_; have GW442 := n5_; have GE442 := n6_; clear n0_ n1_ n2_ n3_ n4_ n5_ n6_; clear hb hbox hg; obtain ⟨Ao32, co32, eo32⟩ := Kd.R_slice HO439.out; subst eo32; have hcz33_0 : w31.cell? ⟨gb442, 0, none⟩ = some (.slice none 0 0) := (blk_cell BK442.out 0).trans rfl; have hcz33_1 : w31.cell? ⟨gb442, 1, none⟩ = some (.string (⟨#[]⟩ : ByteArray)) := (blk_cell BK442.out 1).trans rfl; have hfz33_0 := blk_frozen BK442.out 0; have hfz33_1 := blk_frozen BK442.out 1) | (go_at_call 9; (with_reducible refine (bulletinlaw16_works.calls (hG := by first | exact hG | exact Glob.below hG (by first | exact HB.out | (repeat (first | (with_reducible first | exact HB.out | apply below_alloc | apply pw_below_drewN | apply below_drew1 | refine below_set ?_ GE442.out) | exact HB.out))) | exact Glob.drawn hG (by repeat (first | exact Drawn0.refl _ | apply Drawn0.step))) k2  t443 _ A27.out).mono ?_); rintro e w34 ⟨rfl, hb⟩; have n0_ := Aside0.mk (Kd.R_below (by (with_reducible repeat (first | apply Kd.R_alloc | apply Kd.R_drewN | apply Kd.R_drew)); exact (Kd.R_mono (Kd.R_far (p := ⟨gb442, 1, none⟩) (Kd.R_far (p := ⟨gb442, 0, none⟩) (Kd.R_types HO_5.out BK442.out (by decide)) (fun _ hk => hk.2) (.slice Ao32 t437.length co32)) (fun _ hk => hk.2) (.string t440)) (fun _ h_ => h_.1))) hb); have n1_ := Aside0.mk (Kd.R_below (by (with_reducible repeat (first | apply Kd.R_alloc | apply Kd.R_drewN | apply Kd.R_drew)); exact (Kd.R_mono (Kd.R_far (p := ⟨gb442, 1, none⟩) (Kd.R_far (p := ⟨gb442, 0, none⟩) (Kd.R_types HO439.out BK442.out (by decide)) (fun _ hk => hk.2) (.slice Ao32 t437.length co32)) (fun _ hk => hk.2) (.string t440)) (fun _ h_ => h_.1))) hb); have n2_ := Aside0.mk (blk_below (g := gb442) (o := .cells #[.slice Ao32 t437.length co32, .string t440] 25 (0, 0)) (by (with_reducible repeat (first | refine blk_drewN ?_ _ | refine blk_drew ?_ | refine blk_alloc ?_ _)); refine blk_put (cs := #[.slice Ao32 t437.length co32, .string (⟨#[]⟩ : ByteArray)]) ?_ 1 _ rfl; (with_reducible repeat (first | refine blk_drewN ?_ _ | refine blk_drew ?_ | refine blk_alloc ?_ _)); refine blk_put (cs := #[.slice none 0 0, .string (⟨#[]⟩ : ByteArray)]) ?_ 0 _ rfl; (with_reducible repeat (first | refine blk_drewN ?_ _ | refine blk_drew ?_ | refine blk_alloc ?_ _)); exact BK442.out) hb); have n3_ := Aside0.mk (below_step bwS hb); clear HO_5; clear HO439; clear BK442; clear HB; have HO_5 := n0_; have HO439 := n1_; have BK442 := n2_; have HB := n3_; clear n0_ n1_ n2_ n3_; (try clear hb); (try clear hb2); (try clear hk); (try clear hi)))
               go_ret
               exact ⟨by first | rfl | (simp [errW_none, errW_some] <;> rfl) | (simp [*, errW_none, errW_some] <;> rfl), bwS⟩
              ·rw [if_neg c26] at H
               have c26b0 : ((t437.length : Int) == 0) = false := beq_eq_false_iff_ne.mpr c26
               have c26b1 : ((t437.length : Int) != 0) = true := bne_iff_ne.mpr c26
               have c26b2 : ¬ (t437 = []) := fun h_ => c26 (by rw [h_]; rfl)
               obtain rfl := Option.some.inj H
               have q35 : (2 : Int) ≤ ((x5_2.length : Int) : Int) := od
               obtain ⟨i035, hi035, _, hsz35, _⟩ := info_parts info5
               have hroom35 : x5_2.length ≤ co13 := (Kd.R_reads' HO_5.out).2.1
               have hC35 : Kd.C (Kd.int .u8) _ Ao13 x5_2.length x5_2 := (Kd.R_reads' HO_5.out).2.2
               have hcut35 := cut_from (P := Tryz.prog) 47 5 .i64 Tryz.underlying47 hi035 1 hsz35 Ao13 x5_2.length co13 2 (by omega) q35
               have hr35 := Kd.C_drop (m := (2 : Int).toNat) (c := co13) hC35 (by omega) hroom35
               obtain ⟨A35, hA35⟩ : ∃ A1, A1 = (if co13 = (2 : Int).toNat then Ao13 else (Ao13 : Option Addr).map (·.add ((2 : Int).toNat * 1))) := ⟨_, rfl⟩
               obtain ⟨c35, hc35⟩ : ∃ c1, c1 = co13 - (2 : Int).toNat := ⟨_, rfl⟩
               have hy35 : y433.length = x5_2.length - (2 : Int).toNat := (by rw [Ny433.out, List.length_drop] <;> omega)
               rw [show (x5_2).drop (2 : Int).toNat = y433 from Ny433.out.symm] at hr35
               replace hr35 : Kd.C (Kd.int .u8) _ A35 y433.length y433 := (by rw [hA35]; exact hr35)
               rw [← hy35, ← hA35, ← hc35] at hcut35
               have HR436 := Aside0.mk hr35
               have HC436 := Aside0.mk (show y433.length ≤ c35 from by rw [hy35, hc35]; exact Nat.sub_le_sub_right hroom35 _)
               clear hr35 hC35 hroom35 hi035 hsz35 hc35
               have KY35 := Aside0.mk hy35
               have KA35 := Aside0.mk hA35
               clear hy35 hA35
               have KL35 := Aside0.mk (show 2 ≤ x5_2.length from by omega)
               replace q35 := eq_true q35
               have hcv36 := Kd.C_string (P := Tryz.prog) (A := A35) (c := c35) Tryz.underlying47 Tryz.underlying5 Tryz.underlying9 (by repeat (first | (with_reducible exact HR436.out) | (with_reducible refine Kd.C_alloc ?_ _) | (with_reducible refine Kd.C_drewN ?_ _) | (with_reducible refine Kd.C_drew ?_) | exact HR436.out))
               go_wp2_with (first | ((with_reducible refine gate_callee (f := 10) rfl ?_); refine goesL_ (some 37) rfl rfl Tryz.func10 (by kernel_rfl) rfl #[.string ((⟨#[13, 10]⟩ : ByteArray) ++ (strOfNums y433))] rfl am ?_; (with_reducible refine (msg_Parse.calls (hG := by first | exact hG | exact Glob.below hG (by first | exact HB.out | (repeat (first | (with_reducible first | exact HB.out | apply below_alloc | apply pw_below_drewN | apply below_drew1 | refine below_set ?_ GE442.out) | exact HB.out))) | exact Glob.drawn hG (by repeat (first | exact Drawn0.refl _ | apply Drawn0.step))) k2 ((⟨#[13, 10]⟩ : ByteArray) ++ (strOfNums y433)) t437 t440 t441 _ A22.out).mono ?_); rintro e w37 ⟨v438, rfl, ho0, hb⟩; refine ⟨_, rfl, ?_⟩; have n0_ := Aside0.mk (Kd.R_below (by (with_reducible repeat (first | apply Kd.R_alloc | apply Kd.R_drewN | apply Kd.R_drew)); exact HO_5.out) hb); have n1_ := Aside0.mk (Kd.R_lower ho0 (below_size bw)); have n2_ := Aside0.mk (Kd.C_below (by repeat (first | (with_reducible exact HR436.out) | (with_reducible refine Kd.C_alloc ?_ _) | (with_reducible refine Kd.C_drewN ?_ _) | (with_reducible refine Kd.C_drew ?_) | exact HR436.out)) hb); have n3_ := Aside0.mk (below_step bw hb); clear HO_5; clear HR436; clear HB; have HO_5 := n0_; have HO439 := n1_; have HR436 := n2_; have HB := n3_; clear n0_ n1_ n2_ n3_; (try clear hb); (try clear hb2); (try clear hk); (try clear hi); (try clear ho0)) | ((with_reducible refine gate_dst (N := 7) rfl ?_); (try (refine gate_guard (by rfl) ?_; dsimp only)); refine box_event ?hg (N := 7) ?hd (cs := #[.slice none 0 0, .string (⟨#[]⟩ : ByteArray)]) (t := 25) ?hr ?_; (case hd => rfl); (case hg => rfl); (case hr => first | (go_simp; done) | (go_simp; rfl)); intro gb442 hg w38 hbox hb; have n0_ := Aside0.mk (Kd.R_below (by (with_reducible repeat (first | apply Kd.R_alloc | apply Kd.R_drewN | apply Kd.R_drew)); exact HO_5.out) hb); have n1_ := Aside0.mk (Kd.R_below (by (with_reducible repeat (first | apply Kd.R_alloc | apply Kd.R_drewN | apply Kd.R_drew)); exact HO439.out) hb); have n2_ := Aside0.mk (Kd.C_below (by repeat (first | (with_reducible exact HR436.out) | (with_reducible refine Kd.C_alloc ?_ _) | (with_reducible refine Kd.C_drewN ?_ _) | (with_reducible refine Kd.C_drew ?_) | exact HR436.out)) hb); have n3_ := Aside0.mk (below_step bw hb); have n4_ := Aside0.mk (hbox); have n5_ := Aside0.mk ((by rw [hg]; exact (below_size bw) : w.heap.size ≤ gb442)); have n6_ := Aside0.mk ((by rw [hg]; exact (below_size bw) : w.heap.size ≤ gb442)); clear HO_5; clear HO439; clear HR436; clear HB; have HO_5 := n0_; have HO439 := n1_; have HR436 := n2_; have HB := n3_; have BK442 := n4_; have GW442 := n5_; have GE442 := n6_; clear n0_ n1_ n2_ n3_ n4_ n5_ n6_; clear hb hbox hg; obtain ⟨Ao39, co39, eo39⟩ := Kd.R_slice HO439.out; subst eo39; have hcz40_0 : w38.cell? ⟨gb442, 0, none⟩ = some (.slice none 0 0) := (blk_cell BK442.out 0).trans rfl; have hcz40_1 : w38.cell? ⟨gb442, 1, none⟩ = some (.string (⟨#[]⟩ : ByteArray)) := (blk_cell BK442.out 1).trans rfl; have hfz40_0 := blk_frozen BK442.out 0; have hfz40_1 := blk_frozen BK442.out 1))
               go_ret
               exact ⟨by first | rfl | (simp [errW_none, errW_some] <;> rfl) | (simp [*, errW_none, errW_some] <;> rfl), bwS⟩
             ·rw [if_neg c25] at H
              have c25b0 : (t440.toList == ([] : List UInt8)) = false := beq_eq_false_iff_ne.mpr c25
              have c25b1 : (t440.toList != ([] : List UInt8)) = true := bne_iff_ne.mpr c25
              obtain rfl := Option.some.inj H
              have q41 : (2 : Int) ≤ ((x5_2.length : Int) : Int) := od
              obtain ⟨i041, hi041, _, hsz41, _⟩ := info_parts info5
              have hroom41 : x5_2.length ≤ co13 := (Kd.R_reads' HO_5.out).2.1
              have hC41 : Kd.C (Kd.int .u8) _ Ao13 x5_2.length x5_2 := (Kd.R_reads' HO_5.out).2.2
              have hcut41 := cut_from (P := Tryz.prog) 47 5 .i64 Tryz.underlying47 hi041 1 hsz41 Ao13 x5_2.length co13 2 (by omega) q41
              have hr41 := Kd.C_drop (m := (2 : Int).toNat) (c := co13) hC41 (by omega) hroom41
              obtain ⟨A41, hA41⟩ : ∃ A1, A1 = (if co13 = (2 : Int).toNat then Ao13 else (Ao13 : Option Addr).map (·.add ((2 : Int).toNat * 1))) := ⟨_, rfl⟩
              obtain ⟨c41, hc41⟩ : ∃ c1, c1 = co13 - (2 : Int).toNat := ⟨_, rfl⟩
              have hy41 : y433.length = x5_2.length - (2 : Int).toNat := (by rw [Ny433.out, List.length_drop] <;> omega)
              rw [show (x5_2).drop (2 : Int).toNat = y433 from Ny433.out.symm] at hr41
              replace hr41 : Kd.C (Kd.int .u8) _ A41 y433.length y433 := (by rw [hA41]; exact hr41)
              rw [← hy41, ← hA41, ← hc41] at hcut41
              have HR436 := Aside0.mk hr41
              have HC436 := Aside0.mk (show y433.length ≤ c41 from by rw [hy41, hc41]; exact Nat.sub_le_sub_right hroom41 _)
              clear hr41 hC41 hroom41 hi041 hsz41 hc41
              have KY41 := Aside0.mk hy41
              have KA41 := Aside0.mk hA41
              clear hy41 hA41
              have KL41 := Aside0.mk (show 2 ≤ x5_2.length from by omega)
              replace q41 := eq_true q41
              have hcv42 := Kd.C_string (P := Tryz.prog) (A := A41) (c := c41) Tryz.underlying47 Tryz.underlying5 Tryz.underlying9 (by repeat (first | (with_reducible exact HR436.out) | (with_reducible refine Kd.C_alloc ?_ _) | (with_reducible refine Kd.C_drewN ?_ _) | (with_reducible refine Kd.C_drew ?_) | exact HR436.out))
              go_wp2_with (first | ((with_reducible refine gate_callee (f := 10) rfl ?_); refine goesL_ (some 37) rfl rfl Tryz.func10 (by kernel_rfl) rfl #[.string ((⟨#[13, 10]⟩ : ByteArray) ++ (strOfNums y433))] rfl am ?_; (with_reducible refine (msg_Parse.calls (hG := by first | exact hG | exact Glob.below hG (by first | exact HB.out | (repeat (first | (with_reducible first | exact HB.out | apply below_alloc | apply pw_below_drewN | apply below_drew1 | refine below_set ?_ GE442.out) | exact HB.out))) | exact Glob.drawn hG (by repeat (first | exact Drawn0.refl _ | apply Drawn0.step))) k2 ((⟨#[13, 10]⟩ : ByteArray) ++ (strOfNums y433)) t437 t440 t441 _ A22.out).mono ?_); rintro e w43 ⟨v438, rfl, ho0, hb⟩; refine ⟨_, rfl, ?_⟩; have n0_ := Aside0.mk (Kd.R_below (by (with_reducible repeat (first | apply Kd.R_alloc | apply Kd.R_drewN | apply Kd.R_drew)); exact HO_5.out) hb); have n1_ := Aside0.mk (Kd.R_lower ho0 (below_size bw)); have n2_ := Aside0.mk (Kd.C_below (by repeat (first | (with_reducible exact HR436.out) | (with_reducible refine Kd.C_alloc ?_ _) | (with_reducible refine Kd.C_drewN ?_ _) | (with_reducible refine Kd.C_drew ?_) | exact HR436.out)) hb); have n3_ := Aside0.mk (below_step bw hb); clear HO_5; clear HR436; clear HB; have HO_5 := n0_; have HO439 := n1_; have HR436 := n2_; have HB := n3_; clear n0_ n1_ n2_ n3_; (try clear hb); (try clear hb2); (try clear hk); (try clear hi); (try clear ho0)) | ((with_reducible refine gate_dst (N := 7) rfl ?_); (try (refine gate_guard (by rfl) ?_; dsimp only)); refine box_event ?hg (N := 7) ?hd (cs := #[.slice none 0 0, .string (⟨#[]⟩ : ByteArray)]) (t := 25) ?hr ?_; (case hd => rfl); (case hg => rfl); (case hr => first | (go_simp; done) | (go_simp; rfl)); intro gb442 hg w44 hbox hb; have n0_ := Aside0.mk (Kd.R_below (by (with_reducible repeat (first | apply Kd.R_alloc | apply Kd.R_drewN | apply Kd.R_drew)); exact HO_5.out) hb); have n1_ := Aside0.mk (Kd.R_below (by (with_reducible repeat (first | apply Kd.R_alloc | apply Kd.R_drewN | apply Kd.R_drew)); exact HO439.out) hb); have n2_ := Aside0.mk (Kd.C_below (by repeat (first | (with_reducible exact HR436.out) | (with_reducible refine Kd.C_alloc ?_ _) | (with_reducible refine Kd.C_drewN ?_ _) | (with_reducible refine Kd.C_drew ?_) | exact HR436.out)) hb); have n3_ := Aside0.mk (below_step bw hb); have n4_ := Aside0.mk (hbox); have n5_ := Aside0.mk ((by rw [hg]; exact (below_size bw) : w.heap.size ≤ gb442)); have n6_ := Aside0.mk ((by rw [hg]; exact (below_size bw) : w.heap.size ≤ gb442)); clear HO_5; clear HO439; clear HR436; clear HB; have HO_5 := n0_; have HO439 := n1_; have HR436 := n2_; have HB := n3_; have BK442 := n4_; have GW442 := n5_; have GE442 := n6_; clear n0_ n1_ n2_ n3_ n4_ n5_ n6_; clear hb hbox hg; obtain ⟨Ao45, co45, eo45⟩ := Kd.R_slice HO439.out; subst eo45; have hcz46_0 : w44.cell? ⟨gb442, 0, none⟩ = some (.slice none 0 0) := (blk_cell BK442.out 0).trans rfl; have hcz46_1 : w44.cell? ⟨gb442, 1, none⟩ = some (.string (⟨#[]⟩ : ByteArray)) := (blk_cell BK442.out 1).trans rfl; have hfz46_0 := blk_frozen BK442.out 0; have hfz46_1 := blk_frozen BK442.out 1))
              go_ret
              exact ⟨by first | rfl | (simp [errW_none, errW_some] <;> rfl) | (simp [*, errW_none, errW_some] <;> rfl), bwS⟩
            ·rw [if_neg c24] at H
             have c24b0 : (t441 == 2) = false := beq_eq_false_iff_ne.mpr c24
             have c24b1 : (t441 != 2) = true := bne_iff_ne.mpr c24
             obtain rfl := Option.some.inj H
             have q47 : (2 : Int) ≤ ((x5_2.length : Int) : Int) := od
             obtain ⟨i047, hi047, _, hsz47, _⟩ := info_parts info5
             have hroom47 : x5_2.length ≤ co13 := (Kd.R_reads' HO_5.out).2.1
             have hC47 : Kd.C (Kd.int .u8) _ Ao13 x5_2.length x5_2 := (Kd.R_reads' HO_5.out).2.2
             have hcut47 := cut_from (P := Tryz.prog) 47 5 .i64 Tryz.underlying47 hi047 1 hsz47 Ao13 x5_2.length co13 2 (by omega) q47
             have hr47 := Kd.C_drop (m := (2 : Int).toNat) (c := co13) hC47 (by omega) hroom47
             obtain ⟨A47, hA47⟩ : ∃ A1, A1 = (if co13 = (2 : Int).toNat then Ao13 else (Ao13 : Option Addr).map (·.add ((2 : Int).toNat * 1))) := ⟨_, rfl⟩
             obtain ⟨c47, hc47⟩ : ∃ c1, c1 = co13 - (2 : Int).toNat := ⟨_, rfl⟩
             have hy47 : y433.length = x5_2.length - (2 : Int).toNat := (by rw [Ny433.out, List.length_drop] <;> omega)
             rw [show (x5_2).drop (2 : Int).toNat = y433 from Ny433.out.symm] at hr47
             replace hr47 : Kd.C (Kd.int .u8) _ A47 y433.length y433 := (by rw [hA47]; exact hr47)
             rw [← hy47, ← hA47, ← hc47] at hcut47
             have HR436 := Aside0.mk hr47
             have HC436 := Aside0.mk (show y433.length ≤ c47 from by rw [hy47, hc47]; exact Nat.sub_le_sub_right hroom47 _)
             clear hr47 hC47 hroom47 hi047 hsz47 hc47
             have KY47 := Aside0.mk hy47
             have KA47 := Aside0.mk hA47
             clear hy47 hA47
             have KL47 := Aside0.mk (show 2 ≤ x5_2.length from by omega)
             replace q47 := eq_true q47
             have hcv48 := Kd.C_string (P := Tryz.prog) (A := A47) (c := c47) Tryz.underlying47 Tryz.underlying5 Tryz.underlying9 (by repeat (first | (with_reducible exact HR436.out) | (with_reducible refine Kd.C_alloc ?_ _) | (with_reducible refine Kd.C_drewN ?_ _) | (with_reducible refine Kd.C_drew ?_) | exact HR436.out))
             go_wp2_with (first | ((with_reducible refine gate_callee (f := 10) rfl ?_); refine goesL_ (some 37) rfl rfl Tryz.func10 (by kernel_rfl) rfl #[.string ((⟨#[13, 10]⟩ : ByteArray) ++ (strOfNums y433))] rfl am ?_; (with_reducible refine (msg_Parse.calls (hG := by first | exact hG | exact Glob.below hG (by first | exact HB.out | (repeat (first | (with_reducible first | exact HB.out | apply below_alloc | apply pw_below_drewN | apply below_drew1 | refine below_set ?_ GE442.out) | exact HB.out))) | exact Glob.drawn hG (by repeat (first | exact Drawn0.refl _ | apply Drawn0.step))) k2 ((⟨#[13, 10]⟩ : ByteArray) ++ (strOfNums y433)) t437 t440 t441 _ A22.out).mono ?_); rintro e w49 ⟨v438, rfl, ho0, hb⟩; refine ⟨_, rfl, ?_⟩; have n0_ := Aside0.mk (Kd.R_below (by (with_reducible repeat (first | apply Kd.R_alloc | apply Kd.R_drewN | apply Kd.R_drew)); exact HO_5.out) hb); have n1_ := Aside0.mk (Kd.R_lower ho0 (below_size bw)); have n2_ := Aside0.mk (Kd.C_below (by repeat (first | (with_reducible exact HR436.out) | (with_reducible refine Kd.C_alloc ?_ _) | (with_reducible refine Kd.C_drewN ?_ _) | (with_reducible refine Kd.C_drew ?_) | exact HR436.out)) hb); have n3_ := Aside0.mk (below_step bw hb); clear HO_5; clear HR436; clear HB; have HO_5 := n0_; have HO439 := n1_; have HR436 := n2_; have HB := n3_; clear n0_ n1_ n2_ n3_; (try clear hb); (try clear hb2); (try clear hk); (try clear hi); (try clear ho0)) | ((with_reducible refine gate_dst (N := 7) rfl ?_); (try (refine gate_guard (by rfl) ?_; dsimp only)); refine box_event ?hg (N := 7) ?hd (cs := #[.slice none 0 0, .string (⟨#[]⟩ : ByteArray)]) (t := 25) ?hr ?_; (case hd => rfl); (case hg => rfl); (case hr => first | (go_simp; done) | (go_simp; rfl)); intro gb442 hg w50 hbox hb; have n0_ := Aside0.mk (Kd.R_below (by (with_reducible repeat (first | apply Kd.R_alloc | apply Kd.R_drewN | apply Kd.R_drew)); exact HO_5.out) hb); have n1_ := Aside0.mk (Kd.R_below (by (with_reducible repeat (first | apply Kd.R_alloc | apply Kd.R_drewN | apply Kd.R_drew)); exact HO439.out) hb); have n2_ := Aside0.mk (Kd.C_below (by repeat (first | (with_reducible exact HR436.out) | (with_reducible refine Kd.C_alloc ?_ _) | (with_reducible refine Kd.C_drewN ?_ _) | (with_reducible refine Kd.C_drew ?_) | exact HR436.out)) hb); have n3_ := Aside0.mk (below_step bw hb); have n4_ := Aside0.mk (hbox); have n5_ := Aside0.mk ((by rw [hg]; exact (below_size bw) : w.heap.size ≤ gb442)); have n6_ := Aside0.mk ((by rw [hg]; exact (below_size bw) : w.heap.size ≤ gb442)); clear HO_5; clear HO439; clear HR436; clear HB; have HO_5 := n0_; have HO439 := n1_; have HR436 := n2_; have HB := n3_; have BK442 := n4_; have GW442 := n5_; have GE442 := n6_; clear n0_ n1_ n2_ n3_ n4_ n5_ n6_; clear hb hbox hg; obtain ⟨Ao51, co51, eo51⟩ := Kd.R_slice HO439.out; subst eo51; have hcz52_0 : w50.cell? ⟨gb442, 0, none⟩ = some (.slice none 0 0) := (blk_cell BK442.out 0).trans rfl; have hcz52_1 : w50.cell? ⟨gb442, 1, none⟩ = some (.string (⟨#[]⟩ : ByteArray)) := (blk_cell BK442.out 1).trans rfl; have hfz52_0 := blk_frozen BK442.out 0; have hfz52_1 := blk_frozen BK442.out 1))
             go_ret
             exact ⟨by first | rfl | (simp [errW_none, errW_some] <;> rfl) | (simp [*, errW_none, errW_some] <;> rfl), bwS⟩
           ·rw [if_neg c23] at H
            have c23b0 : decide (65536 < a0) = false := decide_eq_false c23
            clear c23
            by_cases c53 : t441 = 0
            ·rw [if_pos c53] at H
             have c53b0 : (t441 == 0) = true := beq_iff_eq.mpr c53
             have c53b1 : (t441 != 0) = false := bne_eq_false_iff_eq.mpr c53
             clear c53
             by_cases c54 : (t440.size : Int) = (wrap64 (a0 - 2))
             ·rw [if_pos c54] at H
              have c54b0 : ((t440.size : Int) == (wrap64 (a0 - 2))) = true := beq_iff_eq.mpr c54
              have c54b1 : ((t440.size : Int) != (wrap64 (a0 - 2))) = false := bne_eq_false_iff_eq.mpr c54
              clear c54
              by_cases c55 : (t437.length : Int) = 0
              ·rw [if_pos c55] at H
               have c55b0 : ((t437.length : Int) == 0) = true := beq_iff_eq.mpr c55
               have c55b1 : ((t437.length : Int) != 0) = false := bne_eq_false_iff_eq.mpr c55
               clear c55
               replace H := Option.bind_eq_some_iff.mp H
               obtain ⟨t444, A560, H⟩ := H
               replace H : (if t444.toList = ([] : List UInt8) then ((bulletinlaw16_works.f k2).bind fun t445 => (some t445)) else (some false)) = some r := H
               have A56 := Aside0.mk A560
               clear A560
               by_cases c57 : t444.toList = ([] : List UInt8)
               ·rw [if_pos c57] at H
                have c57b0 : (t444.toList == ([] : List UInt8)) = true := beq_iff_eq.mpr c57
                have c57b1 : (t444.toList != ([] : List UInt8)) = false := bne_eq_false_iff_eq.mpr c57
                clear c57
                replace H := Option.bind_eq_some_iff.mp H
                obtain ⟨t445, A580, H⟩ := H
                replace H : (some t445) = some r := H
                have A58 := Aside0.mk A580
                clear A580
                obtain rfl := Option.some.inj H
                have q59 : (2 : Int) ≤ ((x5_2.length : Int) : Int) := od
                obtain ⟨i059, hi059, _, hsz59, _⟩ := info_parts info5
                have hroom59 : x5_2.length ≤ co13 := (Kd.R_reads' HO_5.out).2.1
                have hC59 : Kd.C (Kd.int .u8) _ Ao13 x5_2.length x5_2 := (Kd.R_reads' HO_5.out).2.2
                have hcut59 := cut_from (P := Tryz.prog) 47 5 .i64 Tryz.underlying47 hi059 1 hsz59 Ao13 x5_2.length co13 2 (by omega) q59
                have hr59 := Kd.C_drop (m := (2 : Int).toNat) (c := co13) hC59 (by omega) hroom59
                obtain ⟨A59, hA59⟩ : ∃ A1, A1 = (if co13 = (2 : Int).toNat then Ao13 else (Ao13 : Option Addr).map (·.add ((2 : Int).toNat * 1))) := ⟨_, rfl⟩
                obtain ⟨c59, hc59⟩ : ∃ c1, c1 = co13 - (2 : Int).toNat := ⟨_, rfl⟩
                have hy59 : y433.length = x5_2.length - (2 : Int).toNat := (by rw [Ny433.out, List.length_drop] <;> omega)
                rw [show (x5_2).drop (2 : Int).toNat = y433 from Ny433.out.symm] at hr59
                replace hr59 : Kd.C (Kd.int .u8) _ A59 y433.length y433 := (by rw [hA59]; exact hr59)
                rw [← hy59, ← hA59, ← hc59] at hcut59
                have HR436 := Aside0.mk hr59
                have HC436 := Aside0.mk (show y433.length ≤ c59 from by rw [hy59, hc59]; exact Nat.sub_le_sub_right hroom59 _)
                clear hr59 hC59 hroom59 hi059 hsz59 hc59
                have KY59 := Aside0.mk hy59
                have KA59 := Aside0.mk hA59
                clear hy59 hA59
                have KL59 := Aside0.mk (show 2 ≤ x5_2.length from by omega)
                replace q59 := eq_true q59
                have hcv60 := Kd.C_string (P := Tryz.prog) (A := A59) (c := c59) Tryz.underlying47 Tryz.underlying5 Tryz.underlying9 (by repeat (first | (with_reducible exact HR436.out) | (with_reducible refine Kd.C_alloc ?_ _) | (with_reducible refine Kd.C_drewN ?_ _) | (with_reducible refine Kd.C_drew ?_) | exact HR436.out))
                go_wp2_with (first | ((with_reducible refine gate_callee (f := 10) rfl ?_); refine goesL_ (some 37) rfl rfl Tryz.func10 (by kernel_rfl) rfl #[.string ((⟨#[13, 10]⟩ : ByteArray) ++ (strOfNums y433))] rfl am ?_; (with_reducible refine (msg_Parse.calls (hG := by first | exact hG | exact Glob.below hG (by first | exact HB.out | (repeat (first | (with_reducible first | exact HB.out | apply below_alloc | apply pw_below_drewN | apply below_drew1 | refine below_set ?_ GE442.out) | exact HB.out))) | exact Glob.drawn hG (by repeat (first | exact Drawn0.refl _ | apply Drawn0.step))) k2 ((⟨#[13, 10]⟩ : ByteArray) ++ (strOfNums y433)) t437 t440 t441 _ A22.out).mono ?_); rintro e w61 ⟨v438, rfl, ho0, hb⟩; refine ⟨_, rfl, ?_⟩; have n0_ := Aside0.mk (Kd.R_below (by (with_reducible repeat (first | apply Kd.R_alloc | apply Kd.R_drewN | apply Kd.R_drew)); exact HO_5.out) hb); have n1_ := Aside0.mk (Kd.R_lower ho0 (below_size bw)); have n2_ := Aside0.mk (Kd.C_below (by repeat (first | (with_reducible exact HR436.out) | (with_reducible refine Kd.C_alloc ?_ _) | (with_reducible refine Kd.C_drewN ?_ _) | (with_reducible refine Kd.C_drew ?_) | exact HR436.out)) hb); have n3_ := Aside0.mk (below_step bw hb); clear HO_5; clear HR436; clear HB; have HO_5 := n0_; have HO439 := n1_; have HR436 := n2_; have HB := n3_; clear n0_ n1_ n2_ n3_; (try clear hb); (try clear hb2); (try clear hk); (try clear hi); (try clear ho0)) | ((with_reducible refine gate_dst (N := 7) rfl ?_); (try (refine gate_guard (by rfl) ?_; dsimp only)); refine box_event ?hg (N := 7) ?hd (cs := #[.slice none 0 0, .string (⟨#[]⟩ : ByteArray)]) (t := 25) ?hr ?_; (case hd => rfl); (case hg => rfl); (case hr => first | (go_simp; done) | (go_simp; rfl)); intro gb442 hg w62 hbox hb; have n0_ := Aside0.mk (Kd.R_below (by (with_reducible repeat (first | apply Kd.R_alloc | apply Kd.R_drewN | apply Kd.R_drew)); exact HO_5.out) hb); have n1_ := Aside0.mk (Kd.R_below (by (with_reducible repeat (first | apply Kd.R_alloc | apply Kd.R_drewN | apply Kd.R_drew)); exact HO439.out) hb); have n2_ := Aside0.mk (Kd.C_below (by repeat (first | (with_reducible exact HR436.out) | (with_reducible refine Kd.C_alloc ?_ _) | (with_reducible refine Kd.C_drewN ?_ _) | (with_reducible refine Kd.C_drew ?_) | exact HR436.out)) hb); have n3_ := Aside0.mk (below_step bw hb); have n4_ := Aside0.mk (hbox); have n5_ := Aside0.mk ((by rw [hg]; exact (below_size bw) : w.heap.size ≤ gb442)); have n6_ := Aside0.mk ((by rw [hg]; exact (below_size bw) : w.heap.size ≤ gb442)); clear HO_5; clear HO439; clear HR436; clear HB; have HO_5 := n0_; have HO439 := n1_; have HR436 := n2_; have HB := n3_; have BK442 := n4_; have GW442 := n5_; have GE442 := n6_; clear n0_ n1_ n2_ n3_ n4_ n5_ n6_; clear hb hbox hg; obtain ⟨Ao63, co63, eo63⟩ := Kd.R_slice HO439.out; subst eo63; have hcz64_0 : w62.cell? ⟨gb442, 0, none⟩ = some (.slice none 0 0) := (blk_cell BK442.out 0).trans rfl; have hcz64_1 : w62.cell? ⟨gb442, 1, none⟩ = some (.string (⟨#[]⟩ : ByteArray)) := (blk_cell BK442.out 1).trans rfl; have hfz64_0 := blk_frozen BK442.out 0; have hfz64_1 := blk_frozen BK442.out 1) | (go_at_call 21; (with_reducible refine (msg_Message_Get.calls k2 _ _ t437 t440 a1 t444 _ ?side1 ?side2 A56.out).mono ?_); (case side1 => refine (Kd.R_reads' (e := 46) (base := w.heap.size) (ok := fun k_ => True) (n := t437.length) (c := co63) ?_).2.2; exact (by (with_reducible repeat (first | apply Kd.R_alloc | apply Kd.R_drewN | apply Kd.R_drew)); exact (Kd.R_mono (Kd.R_far (p := ⟨gb442, 1, none⟩) (Kd.R_far (p := ⟨gb442, 0, none⟩) (Kd.R_types HO439.out BK442.out (by decide)) (fun _ hk => hk.2) (.slice Ao63 t437.length co63)) (fun _ hk => hk.2) (.string t440)) (fun _ h_ => h_.1)))); (case side2 => exact (Kd.R_reads' HO439.out).2.1); rintro e w65 ⟨rfl, hb⟩; have n0_ := Aside0.mk (Kd.R_below (by (with_reducible repeat (first | apply Kd.R_alloc | apply Kd.R_drewN | apply Kd.R_drew)); exact (Kd.R_mono (Kd.R_far (p := ⟨gb442, 1, none⟩) (Kd.R_far (p := ⟨gb442, 0, none⟩) (Kd.R_types HO_5.out BK442.out (by decide)) (fun _ hk => hk.2) (.slice Ao63 t437.length co63)) (fun _ hk => hk.2) (.string t440)) (fun _ h_ => h_.1))) hb); have n1_ := Aside0.mk (Kd.R_below (by (with_reducible repeat (first | apply Kd.R_alloc | apply Kd.R_drewN | apply Kd.R_drew)); exact (Kd.R_mono (Kd.R_far (p := ⟨gb442, 1, none⟩) (Kd.R_far (p := ⟨gb442, 0, none⟩) (Kd.R_types HO439.out BK442.out (by decide)) (fun _ hk => hk.2) (.slice Ao63 t437.length co63)) (fun _ hk => hk.2) (.string t440)) (fun _ h_ => h_.1))) hb); have n2_ := Aside0.mk (blk_below (g := gb442) (o := .cells #[.slice Ao63 t437.length co63, .string t440] 25 (0, 0)) (by (with_reducible repeat (first | refine blk_drewN ?_ _ | refine blk_drew ?_ | refine blk_alloc ?_ _)); refine blk_put (cs := #[.slice Ao63 t437.length co63, .string (⟨#[]⟩ : ByteArray)]) ?_ 1 _ rfl; (with_reducible repeat (first | refine blk_drewN ?_ _ | refine blk_drew ?_ | refine blk_alloc ?_ _)); refine blk_put (cs := #[.slice none 0 0, .string (⟨#[]⟩ : ByteArray)]) ?_ 0 _ rfl; (with_reducible repeat (first | refine blk_drewN ?_ _ | refine blk_drew ?_ | refine blk_alloc ?_ _)); exact BK442.out) hb); have n3_ := Aside0.mk (below_step bwS hb); clear HO_5; clear HO439; clear BK442; clear HB; have HO_5 := n0_; have HO439 := n1_; have BK442 := n2_; have HB := n3_; clear n0_ n1_ n2_ n3_; (try clear hb); (try clear hb2); (try clear hk); (try clear hi)) | (go_at_call 9; (with_reducible refine (bulletinlaw16_works.calls (hG := by first | exact hG | exact Glob.below hG (by first | exact HB.out | (repeat (first | (with_reducible first | exact HB.out | apply below_alloc | apply pw_below_drewN | apply below_drew1 | refine below_set ?_ GE442.out) | exact HB.out))) | exact Glob.drawn hG (by repeat (first | exact Drawn0.refl _ | apply Drawn0.step))) k2  t445 _ A58.out).mono ?_); rintro e w66 ⟨rfl, hb⟩; have n0_ := Aside0.mk (Kd.R_below (by (with_reducible repeat (first | apply Kd.R_alloc | apply Kd.R_drewN | apply Kd.R_drew)); exact HO_5.out) hb); have n1_ := Aside0.mk (Kd.R_below (by (with_reducible repeat (first | apply Kd.R_alloc | apply Kd.R_drewN | apply Kd.R_drew)); exact HO439.out) hb); have n2_ := Aside0.mk (blk_below (g := gb442) (o := .cells #[.slice Ao63 t437.length co63, .string t440] 25 (0, 0)) bk hb); have n3_ := Aside0.mk (below_step bwS hb); clear HO_5; clear HO439; clear BK442; clear HB; have HO_5 := n0_; have HO439 := n1_; have BK442 := n2_; have HB := n3_; clear n0_ n1_ n2_ n3_; (try clear hb); (try clear hb2); (try clear hk); (try clear hi)))
                go_ret
                exact ⟨by first | rfl | (simp [errW_none, errW_some] <;> rfl) | (simp [*, errW_none, errW_some] <;> rfl), bwS⟩
               ·rw [if_neg c57] at H
                have c57b0 : (t444.toList == ([] : List UInt8)) = false := beq_eq_false_iff_ne.mpr c57
                have c57b1 : (t444.toList != ([] : List UInt8)) = true := bne_iff_ne.mpr c57
                obtain rfl := Option.some.inj H
                have q67 : (2 : Int) ≤ ((x5_2.length : Int) : Int) := od
                obtain ⟨i067, hi067, _, hsz67, _⟩ := info_parts info5
                have hroom67 : x5_2.length ≤ co13 := (Kd.R_reads' HO_5.out).2.1
                have hC67 : Kd.C (Kd.int .u8) _ Ao13 x5_2.length x5_2 := (Kd.R_reads' HO_5.out).2.2
                have hcut67 := cut_from (P := Tryz.prog) 47 5 .i64 Tryz.underlying47 hi067 1 hsz67 Ao13 x5_2.length co13 2 (by omega) q67
                have hr67 := Kd.C_drop (m := (2 : Int).toNat) (c := co13) hC67 (by omega) hroom67
                obtain ⟨A67, hA67⟩ : ∃ A1, A1 = (if co13 = (2 : Int).toNat then Ao13 else (Ao13 : Option Addr).map (·.add ((2 : Int).toNat * 1))) := ⟨_, rfl⟩
                obtain ⟨c67, hc67⟩ : ∃ c1, c1 = co13 - (2 : Int).toNat := ⟨_, rfl⟩
                have hy67 : y433.length = x5_2.length - (2 : Int).toNat := (by rw [Ny433.out, List.length_drop] <;> omega)
                rw [show (x5_2).drop (2 : Int).toNat = y433 from Ny433.out.symm] at hr67
                replace hr67 : Kd.C (Kd.int .u8) _ A67 y433.length y433 := (by rw [hA67]; exact hr67)
                rw [← hy67, ← hA67, ← hc67] at hcut67
                have HR436 := Aside0.mk hr67
                have HC436 := Aside0.mk (show y433.length ≤ c67 from by rw [hy67, hc67]; exact Nat.sub_le_sub_right hroom67 _)
                clear hr67 hC67 hroom67 hi067 hsz67 hc67
                have KY67 := Aside0.mk hy67
                have KA67 := Aside0.mk hA67
                clear hy67 hA67
                have KL67 := Aside0.mk (show 2 ≤ x5_2.length from by omega)
                replace q67 := eq_true q67
                have hcv68 := Kd.C_string (P := Tryz.prog) (A := A67) (c := c67) Tryz.underlying47 Tryz.underlying5 Tryz.underlying9 (by repeat (first | (with_reducible exact HR436.out) | (with_reducible refine Kd.C_alloc ?_ _) | (with_reducible refine Kd.C_drewN ?_ _) | (with_reducible refine Kd.C_drew ?_) | exact HR436.out))
                go_wp2_with (first | ((with_reducible refine gate_callee (f := 10) rfl ?_); refine goesL_ (some 37) rfl rfl Tryz.func10 (by kernel_rfl) rfl #[.string ((⟨#[13, 10]⟩ : ByteArray) ++ (strOfNums y433))] rfl am ?_; (with_reducible refine (msg_Parse.calls (hG := by first | exact hG | exact Glob.below hG (by first | exact HB.out | (repeat (first | (with_reducible first | exact HB.out | apply below_alloc | apply pw_below_drewN | apply below_drew1 | refine below_set ?_ GE442.out) | exact HB.out))) | exact Glob.drawn hG (by repeat (first | exact Drawn0.refl _ | apply Drawn0.step))) k2 ((⟨#[13, 10]⟩ : ByteArray) ++ (strOfNums y433)) t437 t440 t441 _ A22.out).mono ?_); rintro e w69 ⟨v438, rfl, ho0, hb⟩; refine ⟨_, rfl, ?_⟩; have n0_ := Aside0.mk (Kd.R_below (by (with_reducible repeat (first | apply Kd.R_alloc | apply Kd.R_drewN | apply Kd.R_drew)); exact HO_5.out) hb); have n1_ := Aside0.mk (Kd.R_lower ho0 (below_size bw)); have n2_ := Aside0.mk (Kd.C_below (by repeat (first | (with_reducible exact HR436.out) | (with_reducible refine Kd.C_alloc ?_ _) | (with_reducible refine Kd.C_drewN ?_ _) | (with_reducible refine Kd.C_drew ?_) | exact HR436.out)) hb); have n3_ := Aside0.mk (below_step bw hb); clear HO_5; clear HR436; clear HB; have HO_5 := n0_; have HO439 := n1_; have HR436 := n2_; have HB := n3_; clear n0_ n1_ n2_ n3_; (try clear hb); (try clear hb2); (try clear hk); (try clear hi); (try clear ho0)) | ((with_reducible refine gate_dst (N := 7) rfl ?_); (try (refine gate_guard (by rfl) ?_; dsimp only)); refine box_event ?hg (N := 7) ?hd (cs := #[.slice none 0 0, .string (⟨#[]⟩ : ByteArray)]) (t := 25) ?hr ?_; (case hd => rfl); (case hg => rfl); (case hr => first | (go_simp; done) | (go_simp; rfl)); intro gb442 hg w70 hbox hb; have n0_ := Aside0.mk (Kd.R_below (by (with_reducible repeat (first | apply Kd.R_alloc | apply Kd.R_drewN | apply Kd.R_drew)); exact HO_5.out) hb); have n1_ := Aside0.mk (Kd.R_below (by (with_reducible repeat (first | apply Kd.R_alloc | apply Kd.R_drewN | apply Kd.R_drew)); exact HO439.out) hb); have n2_ := Aside0.mk (Kd.C_below (by repeat (first | (with_reducible exact HR436.out) | (with_reducible refine Kd.C_alloc ?_ _) | (with_reducible refine Kd.C_drewN ?_ _) | (with_reducible refine Kd.C_drew ?_) | exact HR436.out)) hb); have n3_ := Aside0.mk (below_step bw hb); have n4_ := Aside0.mk (hbox); have n5_ := Aside0.mk ((by rw [hg]; exact (below_size bw) : w.heap.size ≤ gb442)); have n6_ := Aside0.mk ((by rw [hg]; exact (below_size bw) : w.heap.size ≤ gb442)); clear HO_5; clear HO439; clear HR436; clear HB; have HO_5 := n0_; have HO439 := n1_; have HR436 := n2_; have HB := n3_; have BK442 := n4_; have GW442 := n5_; have GE442 := n6_; clear n0_ n1_ n2_ n3_ n4_ n5_ n6_; clear hb hbox hg; obtain ⟨Ao71, co71, eo71⟩ := Kd.R_slice HO439.out; subst eo71; have hcz72_0 : w70.cell? ⟨gb442, 0, none⟩ = some (.slice none 0 0) := (blk_cell BK442.out 0).trans rfl; have hcz72_1 : w70.cell? ⟨gb442, 1, none⟩ = some (.string (⟨#[]⟩ : ByteArray)) := (blk_cell BK442.out 1).trans rfl; have hfz72_0 := blk_frozen BK442.out 0; have hfz72_1 := blk_frozen BK442.out 1) | (go_at_call 21; (with_reducible refine (msg_Message_Get.calls k2 _ _ t437 t440 a1 t444 _ ?side1 ?side2 A56.out).mono ?_); (case side1 => refine (Kd.R_reads' (e := 46) (base := w.heap.size) (ok := fun k_ => True) (n := t437.length) (c := co71) ?_).2.2; exact (by (with_reducible repeat (first | apply Kd.R_alloc | apply Kd.R_drewN | apply Kd.R_drew)); exact (Kd.R_mono (Kd.R_far (p := ⟨gb442, 1, none⟩) (Kd.R_far (p := ⟨gb442, 0, none⟩) (Kd.R_types HO439.out BK442.out (by decide)) (fun _ hk => hk.2) (.slice Ao71 t437.length co71)) (fun _ hk => hk.2) (.string t440)) (fun _ h_ => h_.1)))); (case side2 => exact (Kd.R_reads' HO439.out).2.1); rintro e w73 ⟨rfl, hb⟩; have n0_ := Aside0.mk (Kd.R_below (by (with_reducible repeat (first | apply Kd.R_alloc | apply Kd.R_drewN | apply Kd.R_drew)); exact (Kd.R_mono (Kd.R_far (p := ⟨gb442, 1, none⟩) (Kd.R_far (p := ⟨gb442, 0, none⟩) (Kd.R_types HO_5.out BK442.out (by decide)) (fun _ hk => hk.2) (.slice Ao71 t437.length co71)) (fun _ hk => hk.2) (.string t440)) (fun _ h_ => h_.1))) hb); have n1_ := Aside0.mk (Kd.R_below (by (with_reducible repeat (first | apply Kd.R_alloc | apply Kd.R_drewN | apply Kd.R_drew)); exact (Kd.R_mono (Kd.R_far (p := ⟨gb442, 1, none⟩) (Kd.R_far (p := ⟨gb442, 0, none⟩) (Kd.R_types HO439.out BK442.out (by decide)) (fun _ hk => hk.2) (.slice Ao71 t437.length co71)) (fun _ hk => hk.2) (.string t440)) (fun _ h_ => h_.1))) hb); have n2_ := Aside0.mk (blk_below (g := gb442) (o := .cells #[.slice Ao71 t437.length co71, .string t440] 25 (0, 0)) (by (with_reducible repeat (first | refine blk_drewN ?_ _ | refine blk_drew ?_ | refine blk_alloc ?_ _)); refine blk_put (cs := #[.slice Ao71 t437.length co71, .string (⟨#[]⟩ : ByteArray)]) ?_ 1 _ rfl; (with_reducible repeat (first | refine blk_drewN ?_ _ | refine blk_drew ?_ | refine blk_alloc ?_ _)); refine blk_put (cs := #[.slice none 0 0, .string (⟨#[]⟩ : ByteArray)]) ?_ 0 _ rfl; (with_reducible repeat (first | refine blk_drewN ?_ _ | refine blk_drew ?_ | refine blk_alloc ?_ _)); exact BK442.out) hb); have n3_ := Aside0.mk (below_step bwS hb); clear HO_5; clear HO439; clear BK442; clear HB; have HO_5 := n0_; have HO439 := n1_; have BK442 := n2_; have HB := n3_; clear n0_ n1_ n2_ n3_; (try clear hb); (try clear hb2); (try clear hk); (try clear hi)))
                go_ret
                exact ⟨by first | rfl | (simp [errW_none, errW_some] <;> rfl) | (simp [*, errW_none, errW_some] <;> rfl), bwS⟩
              ·rw [if_neg c55] at H
               have c55b0 : ((t437.length : Int) == 0) = false := beq_eq_false_iff_ne.mpr c55
               have c55b1 : ((t437.length : Int) != 0) = true := bne_iff_ne.mpr c55
               have c55b2 : ¬ (t437 = []) := fun h_ => c55 (by rw [h_]; rfl)
               obtain rfl := Option.some.inj H
               have q74 : (2 : Int) ≤ ((x5_2.length : Int) : Int) := od
               obtain ⟨i074, hi074, _, hsz74, _⟩ := info_parts info5
               have hroom74 : x5_2.length ≤ co13 := (Kd.R_reads' HO_5.out).2.1
               have hC74 : Kd.C (Kd.int .u8) _ Ao13 x5_2.length x5_2 := (Kd.R_reads' HO_5.out).2.2
               have hcut74 := cut_from (P := Tryz.prog) 47 5 .i64 Tryz.underlying47 hi074 1 hsz74 Ao13 x5_2.length co13 2 (by omega) q74
               have hr74 := Kd.C_drop (m := (2 : Int).toNat) (c := co13) hC74 (by omega) hroom74
               obtain ⟨A74, hA74⟩ : ∃ A1, A1 = (if co13 = (2 : Int).toNat then Ao13 else (Ao13 : Option Addr).map (·.add ((2 : Int).toNat * 1))) := ⟨_, rfl⟩
               obtain ⟨c74, hc74⟩ : ∃ c1, c1 = co13 - (2 : Int).toNat := ⟨_, rfl⟩
               have hy74 : y433.length = x5_2.length - (2 : Int).toNat := (by rw [Ny433.out, List.length_drop] <;> omega)
               rw [show (x5_2).drop (2 : Int).toNat = y433 from Ny433.out.symm] at hr74
               replace hr74 : Kd.C (Kd.int .u8) _ A74 y433.length y433 := (by rw [hA74]; exact hr74)
               rw [← hy74, ← hA74, ← hc74] at hcut74
               have HR436 := Aside0.mk hr74
               have HC436 := Aside0.mk (show y433.length ≤ c74 from by rw [hy74, hc74]; exact Nat.sub_le_sub_right hroom74 _)
               clear hr74 hC74 hroom74 hi074 hsz74 hc74
               have KY74 := Aside0.mk hy74
               have KA74 := Aside0.mk hA74
               clear hy74 hA74
               have KL74 := Aside0.mk (show 2 ≤ x5_2.length from by omega)
               replace q74 := eq_true q74
               have hcv75 := Kd.C_string (P := Tryz.prog) (A := A74) (c := c74) Tryz.underlying47 Tryz.underlying5 Tryz.underlying9 (by repeat (first | (with_reducible exact HR436.out) | (with_reducible refine Kd.C_alloc ?_ _) | (with_reducible refine Kd.C_drewN ?_ _) | (with_reducible refine Kd.C_drew ?_) | exact HR436.out))
               go_wp2_with (first | ((with_reducible refine gate_callee (f := 10) rfl ?_); refine goesL_ (some 37) rfl rfl Tryz.func10 (by kernel_rfl) rfl #[.string ((⟨#[13, 10]⟩ : ByteArray) ++ (strOfNums y433))] rfl am ?_; (with_reducible refine (msg_Parse.calls (hG := by first | exact hG | exact Glob.below hG (by first | exact HB.out | (repeat (first | (with_reducible first | exact HB.out | apply below_alloc | apply pw_below_drewN | apply below_drew1 | refine below_set ?_ GE442.out) | exact HB.out))) | exact Glob.drawn hG (by repeat (first | exact Drawn0.refl _ | apply Drawn0.step))) k2 ((⟨#[13, 10]⟩ : ByteArray) ++ (strOfNums y433)) t437 t440 t441 _ A22.out).mono ?_); rintro e w76 ⟨v438, rfl, ho0, hb⟩; refine ⟨_, rfl, ?_⟩; have n0_ := Aside0.mk (Kd.R_below (by (with_reducible repeat (first | apply Kd.R_alloc | apply Kd.R_drewN | apply Kd.R_drew)); exact HO_5.out) hb); have n1_ := Aside0.mk (Kd.R_lower ho0 (below_size bw)); have n2_ := Aside0.mk (Kd.C_below (by repeat (first | (with_reducible exact HR436.out) | (with_reducible refine Kd.C_alloc ?_ _) | (with_reducible refine Kd.C_drewN ?_ _) | (with_reducible refine Kd.C_drew ?_) | exact HR436.out)) hb); have n3_ := Aside0.mk (below_step bw hb); clear HO_5; clear HR436; clear HB; have HO_5 := n0_; have HO439 := n1_; have HR436 := n2_; have HB := n3_; clear n0_ n1_ n2_ n3_; (try clear hb); (try clear hb2); (try clear hk); (try clear hi); (try clear ho0)) | ((with_reducible refine gate_dst (N := 7) rfl ?_); (try (refine gate_guard (by rfl) ?_; dsimp only)); refine box_event ?hg (N := 7) ?hd (cs := #[.slice none 0 0, .string (⟨#[]⟩ : ByteArray)]) (t := 25) ?hr ?_; (case hd => rfl); (case hg => rfl); (case hr => first | (go_simp; done) | (go_simp; rfl)); intro gb442 hg w77 hbox hb; have n0_ := Aside0.mk (Kd.R_below (by (with_reducible repeat (first | apply Kd.R_alloc | apply Kd.R_drewN | apply Kd.R_drew)); exact HO_5.out) hb); have n1_ := Aside0.mk (Kd.R_below (by (with_reducible repeat (first | apply Kd.R_alloc | apply Kd.R_drewN | apply Kd.R_drew)); exact HO439.out) hb); have n2_ := Aside0.mk (Kd.C_below (by repeat (first | (with_reducible exact HR436.out) | (with_reducible refine Kd.C_alloc ?_ _) | (with_reducible refine Kd.C_drewN ?_ _) | (with_reducible refine Kd.C_drew ?_) | exact HR436.out)) hb); have n3_ := Aside0.mk (below_step bw hb); have n4_ := Aside0.mk (hbox); have n5_ := Aside0.mk ((by rw [hg]; exact (below_size bw) : w.heap.size ≤ gb442)); have n6_ := Aside0.mk ((by rw [hg]; exact (below_size bw) : w.heap.size ≤ gb442)); clear HO_5; clear HO439; clear HR436; clear HB; have HO_5 := n0_; have HO439 := n1_; have HR436 := n2_; have HB := n3_; have BK442 := n4_; have GW442 := n5_; have GE442 := n6_; clear n0_ n1_ n2_ n3_ n4_ n5_ n6_; clear hb hbox hg; obtain ⟨Ao78, co78, eo78⟩ := Kd.R_slice HO439.out; subst eo78; have hcz79_0 : w77.cell? ⟨gb442, 0, none⟩ = some (.slice none 0 0) := (blk_cell BK442.out 0).trans rfl; have hcz79_1 : w77.cell? ⟨gb442, 1, none⟩ = some (.string (⟨#[]⟩ : ByteArray)) := (blk_cell BK442.out 1).trans rfl; have hfz79_0 := blk_frozen BK442.out 0; have hfz79_1 := blk_frozen BK442.out 1))
               go_ret
               exact ⟨by first | rfl | (simp [errW_none, errW_some] <;> rfl) | (simp [*, errW_none, errW_some] <;> rfl), bwS⟩
             ·rw [if_neg c54] at H
              have c54b0 : ((t440.size : Int) == (wrap64 (a0 - 2))) = false := beq_eq_false_iff_ne.mpr c54
              have c54b1 : ((t440.size : Int) != (wrap64 (a0 - 2))) = true := bne_iff_ne.mpr c54
              obtain rfl := Option.some.inj H
              have q80 : (2 : Int) ≤ ((x5_2.length : Int) : Int) := od
              obtain ⟨i080, hi080, _, hsz80, _⟩ := info_parts info5
              have hroom80 : x5_2.length ≤ co13 := (Kd.R_reads' HO_5.out).2.1
              have hC80 : Kd.C (Kd.int .u8) _ Ao13 x5_2.length x5_2 := (Kd.R_reads' HO_5.out).2.2
              have hcut80 := cut_from (P := Tryz.prog) 47 5 .i64 Tryz.underlying47 hi080 1 hsz80 Ao13 x5_2.length co13 2 (by omega) q80
              have hr80 := Kd.C_drop (m := (2 : Int).toNat) (c := co13) hC80 (by omega) hroom80
              obtain ⟨A80, hA80⟩ : ∃ A1, A1 = (if co13 = (2 : Int).toNat then Ao13 else (Ao13 : Option Addr).map (·.add ((2 : Int).toNat * 1))) := ⟨_, rfl⟩
              obtain ⟨c80, hc80⟩ : ∃ c1, c1 = co13 - (2 : Int).toNat := ⟨_, rfl⟩
              have hy80 : y433.length = x5_2.length - (2 : Int).toNat := (by rw [Ny433.out, List.length_drop] <;> omega)
              rw [show (x5_2).drop (2 : Int).toNat = y433 from Ny433.out.symm] at hr80
              replace hr80 : Kd.C (Kd.int .u8) _ A80 y433.length y433 := (by rw [hA80]; exact hr80)
              rw [← hy80, ← hA80, ← hc80] at hcut80
              have HR436 := Aside0.mk hr80
              have HC436 := Aside0.mk (show y433.length ≤ c80 from by rw [hy80, hc80]; exact Nat.sub_le_sub_right hroom80 _)
              clear hr80 hC80 hroom80 hi080 hsz80 hc80
              have KY80 := Aside0.mk hy80
              have KA80 := Aside0.mk hA80
              clear hy80 hA80
              have KL80 := Aside0.mk (show 2 ≤ x5_2.length from by omega)
              replace q80 := eq_true q80
              have hcv81 := Kd.C_string (P := Tryz.prog) (A := A80) (c := c80) Tryz.underlying47 Tryz.underlying5 Tryz.underlying9 (by repeat (first | (with_reducible exact HR436.out) | (with_reducible refine Kd.C_alloc ?_ _) | (with_reducible refine Kd.C_drewN ?_ _) | (with_reducible refine Kd.C_drew ?_) | exact HR436.out))
              go_wp2_with (first | ((with_reducible refine gate_callee (f := 10) rfl ?_); refine goesL_ (some 37) rfl rfl Tryz.func10 (by kernel_rfl) rfl #[.string ((⟨#[13, 10]⟩ : ByteArray) ++ (strOfNums y433))] rfl am ?_; (with_reducible refine (msg_Parse.calls (hG := by first | exact hG | exact Glob.below hG (by first | exact HB.out | (repeat (first | (with_reducible first | exact HB.out | apply below_alloc | apply pw_below_drewN | apply below_drew1 | refine below_set ?_ GE442.out) | exact HB.out))) | exact Glob.drawn hG (by repeat (first | exact Drawn0.refl _ | apply Drawn0.step))) k2 ((⟨#[13, 10]⟩ : ByteArray) ++ (strOfNums y433)) t437 t440 t441 _ A22.out).mono ?_); rintro e w82 ⟨v438, rfl, ho0, hb⟩; refine ⟨_, rfl, ?_⟩; have n0_ := Aside0.mk (Kd.R_below (by (with_reducible repeat (first | apply Kd.R_alloc | apply Kd.R_drewN | apply Kd.R_drew)); exact HO_5.out) hb); have n1_ := Aside0.mk (Kd.R_lower ho0 (below_size bw)); have n2_ := Aside0.mk (Kd.C_below (by repeat (first | (with_reducible exact HR436.out) | (with_reducible refine Kd.C_alloc ?_ _) | (with_reducible refine Kd.C_drewN ?_ _) | (with_reducible refine Kd.C_drew ?_) | exact HR436.out)) hb); have n3_ := Aside0.mk (below_step bw hb); clear HO_5; clear HR436; clear HB; have HO_5 := n0_; have HO439 := n1_; have HR436 := n2_; have HB := n3_; clear n0_ n1_ n2_ n3_; (try clear hb); (try clear hb2); (try clear hk); (try clear hi); (try clear ho0)) | ((with_reducible refine gate_dst (N := 7) rfl ?_); (try (refine gate_guard (by rfl) ?_; dsimp only)); refine box_event ?hg (N := 7) ?hd (cs := #[.slice none 0 0, .string (⟨#[]⟩ : ByteArray)]) (t := 25) ?hr ?_; (case hd => rfl); (case hg => rfl); (case hr => first | (go_simp; done) | (go_simp; rfl)); intro gb442 hg w83 hbox hb; have n0_ := Aside0.mk (Kd.R_below (by (with_reducible repeat (first | apply Kd.R_alloc | apply Kd.R_drewN | apply Kd.R_drew)); exact HO_5.out) hb); have n1_ := Aside0.mk (Kd.R_below (by (with_reducible repeat (first | apply Kd.R_alloc | apply Kd.R_drewN | apply Kd.R_drew)); exact HO439.out) hb); have n2_ := Aside0.mk (Kd.C_below (by repeat (first | (with_reducible exact HR436.out) | (with_reducible refine Kd.C_alloc ?_ _) | (with_reducible refine Kd.C_drewN ?_ _) | (with_reducible refine Kd.C_drew ?_) | exact HR436.out)) hb); have n3_ := Aside0.mk (below_step bw hb); have n4_ := Aside0.mk (hbox); have n5_ := Aside0.mk ((by rw [hg]; exact (below_size bw) : w.heap.size ≤ gb442)); have n6_ := Aside0.mk ((by rw [hg]; exact (below_size bw) : w.heap.size ≤ gb442)); clear HO_5; clear HO439; clear HR436; clear HB; have HO_5 := n0_; have HO439 := n1_; have HR436 := n2_; have HB := n3_; have BK442 := n4_; have GW442 := n5_; have GE442 := n6_; clear n0_ n1_ n2_ n3_ n4_ n5_ n6_; clear hb hbox hg; obtain ⟨Ao84, co84, eo84⟩ := Kd.R_slice HO439.out; subst eo84; have hcz85_0 : w83.cell? ⟨gb442, 0, none⟩ = some (.slice none 0 0) := (blk_cell BK442.out 0).trans rfl; have hcz85_1 : w83.cell? ⟨gb442, 1, none⟩ = some (.string (⟨#[]⟩ : ByteArray)) := (blk_cell BK442.out 1).trans rfl; have hfz85_0 := blk_frozen BK442.out 0; have hfz85_1 := blk_frozen BK442.out 1))
              go_ret
              exact ⟨by first | rfl | (simp [errW_none, errW_some] <;> rfl) | (simp [*, errW_none, errW_some] <;> rfl), bwS⟩
            ·rw [if_neg c53] at H
             have c53b0 : (t441 == 0) = false := beq_eq_false_iff_ne.mpr c53
             have c53b1 : (t441 != 0) = true := bne_iff_ne.mpr c53
             obtain rfl := Option.some.inj H
             have q86 : (2 : Int) ≤ ((x5_2.length : Int) : Int) := od
             obtain ⟨i086, hi086, _, hsz86, _⟩ := info_parts info5
             have hroom86 : x5_2.length ≤ co13 := (Kd.R_reads' HO_5.out).2.1
             have hC86 : Kd.C (Kd.int .u8) _ Ao13 x5_2.length x5_2 := (Kd.R_reads' HO_5.out).2.2
             have hcut86 := cut_from (P := Tryz.prog) 47 5 .i64 Tryz.underlying47 hi086 1 hsz86 Ao13 x5_2.length co13 2 (by omega) q86
             have hr86 := Kd.C_drop (m := (2 : Int).toNat) (c := co13) hC86 (by omega) hroom86
             obtain ⟨A86, hA86⟩ : ∃ A1, A1 = (if co13 = (2 : Int).toNat then Ao13 else (Ao13 : Option Addr).map (·.add ((2 : Int).toNat * 1))) := ⟨_, rfl⟩
             obtain ⟨c86, hc86⟩ : ∃ c1, c1 = co13 - (2 : Int).toNat := ⟨_, rfl⟩
             have hy86 : y433.length = x5_2.length - (2 : Int).toNat := (by rw [Ny433.out, List.length_drop] <;> omega)
             rw [show (x5_2).drop (2 : Int).toNat = y433 from Ny433.out.symm] at hr86
             replace hr86 : Kd.C (Kd.int .u8) _ A86 y433.length y433 := (by rw [hA86]; exact hr86)
             rw [← hy86, ← hA86, ← hc86] at hcut86
             have HR436 := Aside0.mk hr86
             have HC436 := Aside0.mk (show y433.length ≤ c86 from by rw [hy86, hc86]; exact Nat.sub_le_sub_right hroom86 _)
             clear hr86 hC86 hroom86 hi086 hsz86 hc86
             have KY86 := Aside0.mk hy86
             have KA86 := Aside0.mk hA86
             clear hy86 hA86
             have KL86 := Aside0.mk (show 2 ≤ x5_2.length from by omega)
             replace q86 := eq_true q86
             have hcv87 := Kd.C_string (P := Tryz.prog) (A := A86) (c := c86) Tryz.underlying47 Tryz.underlying5 Tryz.underlying9 (by repeat (first | (with_reducible exact HR436.out) | (with_reducible refine Kd.C_alloc ?_ _) | (with_reducible refine Kd.C_drewN ?_ _) | (with_reducible refine Kd.C_drew ?_) | exact HR436.out))
             go_wp2_with (first | ((with_reducible refine gate_callee (f := 10) rfl ?_); refine goesL_ (some 37) rfl rfl Tryz.func10 (by kernel_rfl) rfl #[.string ((⟨#[13, 10]⟩ : ByteArray) ++ (strOfNums y433))] rfl am ?_; (with_reducible refine (msg_Parse.calls (hG := by first | exact hG | exact Glob.below hG (by first | exact HB.out | (repeat (first | (with_reducible first | exact HB.out | apply below_alloc | apply pw_below_drewN | apply below_drew1 | refine below_set ?_ GE442.out) | exact HB.out))) | exact Glob.drawn hG (by repeat (first | exact Drawn0.refl _ | apply Drawn0.step))) k2 ((⟨#[13, 10]⟩ : ByteArray) ++ (strOfNums y433)) t437 t440 t441 _ A22.out).mono ?_); rintro e w88 ⟨v438, rfl, ho0, hb⟩; refine ⟨_, rfl, ?_⟩; have n0_ := Aside0.mk (Kd.R_below (by (with_reducible repeat (first | apply Kd.R_alloc | apply Kd.R_drewN | apply Kd.R_drew)); exact HO_5.out) hb); have n1_ := Aside0.mk (Kd.R_lower ho0 (below_size bw)); have n2_ := Aside0.mk (Kd.C_below (by repeat (first | (with_reducible exact HR436.out) | (with_reducible refine Kd.C_alloc ?_ _) | (with_reducible refine Kd.C_drewN ?_ _) | (with_reducible refine Kd.C_drew ?_) | exact HR436.out)) hb); have n3_ := Aside0.mk (below_step bw hb); clear HO_5; clear HR436; clear HB; have HO_5 := n0_; have HO439 := n1_; have HR436 := n2_; have HB := n3_; clear n0_ n1_ n2_ n3_; (try clear hb); (try clear hb2); (try clear hk); (try clear hi); (try clear ho0)) | ((with_reducible refine gate_dst (N := 7) rfl ?_); (try (refine gate_guard (by rfl) ?_; dsimp only)); refine box_event ?hg (N := 7) ?hd (cs := #[.slice none 0 0, .string (⟨#[]⟩ : ByteArray)]) (t := 25) ?hr ?_; (case hd => rfl); (case hg => rfl); (case hr => first | (go_simp; done) | (go_simp; rfl)); intro gb442 hg w89 hbox hb; have n0_ := Aside0.mk (Kd.R_below (by (with_reducible repeat (first | apply Kd.R_alloc | apply Kd.R_drewN | apply Kd.R_drew)); exact HO_5.out) hb); have n1_ := Aside0.mk (Kd.R_below (by (with_reducible repeat (first | apply Kd.R_alloc | apply Kd.R_drewN | apply Kd.R_drew)); exact HO439.out) hb); have n2_ := Aside0.mk (Kd.C_below (by repeat (first | (with_reducible exact HR436.out) | (with_reducible refine Kd.C_alloc ?_ _) | (with_reducible refine Kd.C_drewN ?_ _) | (with_reducible refine Kd.C_drew ?_) | exact HR436.out)) hb); have n3_ := Aside0.mk (below_step bw hb); have n4_ := Aside0.mk (hbox); have n5_ := Aside0.mk ((by rw [hg]; exact (below_size bw) : w.heap.size ≤ gb442)); have n6_ := Aside0.mk ((by rw [hg]; exact (below_size bw) : w.heap.size ≤ gb442)); clear HO_5; clear HO439; clear HR436; clear HB; have HO_5 := n0_; have HO439 := n1_; have HR436 := n2_; have HB := n3_; have BK442 := n4_; have GW442 := n5_; have GE442 := n6_; clear n0_ n1_ n2_ n3_ n4_ n5_ n6_; clear hb hbox hg; obtain ⟨Ao90, co90, eo90⟩ := Kd.R_slice HO439.out; subst eo90; have hcz91_0 : w89.cell? ⟨gb442, 0, none⟩ = some (.slice none 0 0) := (blk_cell BK442.out 0).trans rfl; have hcz91_1 : w89.cell? ⟨gb442, 1, none⟩ = some (.string (⟨#[]⟩ : ByteArray)) := (blk_cell BK442.out 1).trans rfl; have hfz91_0 := blk_frozen BK442.out 0; have hfz91_1 := blk_frozen BK442.out 1))
             go_ret
             exact ⟨by first | rfl | (simp [errW_none, errW_some] <;> rfl) | (simp [*, errW_none, errW_some] <;> rfl), bwS⟩
          ·rw [if_neg c21] at H
           exact absurd H (by simp)
         ·rw [if_neg c20] at H
          exact absurd H (by simp)
     ·rw [if_neg c10] at H
      exact absurd H (by simp)
    ·rw [if_neg c9] at H
     exact absurd H (by simp)


end Go.Proofs.YtbjbpgmjijeppaaGreatDoor.Fn
set_option linter.unusedVariables false
set_option linter.unusedSimpArgs false
namespace Go.Proofs.YtbjbpgmjijeppaaGreatDoor.Pl
open Go.RowKit Go.Proofs.YtbjbpgmjijeppaaGreatDoorW.PrintWords Go.Proofs.YtbjbpgmjijeppaaGreatDoor.Fn

/-! head.Parse as a machine over lists of bytes. -/
abbrev Fld := Bytes × Bytes
def toP (f : Fld) : S46 := ⟨str f.1, str f.2⟩
def textB (c : UInt8) : Bool := decide (c.toNat = 9) || (!decide (c.toNat < 32) && !decide (c.toNat = 127))
def textual (s : Bytes) : Bool := s.all textB
def nameB (c : UInt8) : Bool := !decide (c.toNat < 33) && (!decide (126 < c.toNat) && !decide (c.toNat = 58))
def named (s : Bytes) : Bool := s.all nameB && (!decide (s = []) && decide (s.length ≤ 76))
def crlf : Bytes → Option Nat
  | [] => none
  | c :: r => if c = 13 ∧ r.head? = some 10 then some 0 else (crlf r).map (· + 1)
def upto (c : UInt8) : Bytes → Nat
  | [] => 0
  | d :: r => if d = c then 0 else upto c r + 1
def trim (s : Bytes) : Bytes := Lib.trimS s [32, 9]
def trimF (f : Fld) : Fld := (f.1, trim f.2)
def bad (e : Int) : List Fld × Bytes × Int := ([], [], e)
def addLast (l : List Fld) (t : Bytes) : List Fld := l.set (l.length - 1) ((l.getD (l.length - 1) ([], [])).1, (l.getD (l.length - 1) ([], [])).2 ++ t)
def growL (l : List Fld) (t : Bytes) : List Fld × Int :=
  if 998 < t.length then ([], 2) else if textual t = false then ([], 150)
  else if wb (t.headD 0) = true then (if l = [] then ([], 150) else (addLast l t, 0))
  else if upto 58 t = t.length then ([], 150) else if named (t.take (upto 58 t)) = false then ([], 150)
  else if l.length = 100 then ([], 8) else (l ++ [(t.take (upto 58 t), t.drop (upto 58 t + 1))], 0)
def parseM : Nat → Bytes → List Fld → List Fld × Bytes × Int
  | 0, _, _ => bad 9
  | n + 1, s, l => if s = [] then (l.map trimF, [], 0) else match crlf s with
    | none => bad 9
    | some i => if i = 0 then (l.map trimF, s.drop 2, 0)
      else if (growL l (s.take i)).2 = 0 then parseM n (s.drop (i + 2)) (growL l (s.take i)).1 else bad (growL l (s.take i)).2
def parseH (s : Bytes) : List Fld × Bytes × Int := parseM (s.length + 1) s []
theorem crlf_room : ∀ {s : Bytes} {i : Nat}, crlf s = some i → i + 2 ≤ s.length
  | [], i, h => by simp [crlf] at h
  | c :: r, i, h => by
    unfold crlf at h
    split at h
    · rename_i hc
      injection h with h
      subst h
      cases r with
      | nil => simp at hc
      | cons d r => simp
    · rw [Option.map_eq_some_iff] at h
      obtain ⟨j, hj, rfl⟩ := h
      have := crlf_room hj
      simp only [List.length_cons]; omega
theorem index_crlf : ∀ (s : Bytes), Lib.index s [13, 10] = (match crlf s with | some i => (i : Int) | none => -1)
  | [] => rfl
  | c :: r => by
    have ih := index_crlf r
    rw [Lib.index, crlf]
    by_cases h : c = 13 ∧ r.head? = some 10
    · rw [if_pos h]
      obtain ⟨rfl, h2⟩ := h
      cases r with
      | nil => simp at h2
      | cons d r =>
        simp at h2
        subst h2
        rw [if_pos (by simp [List.isPrefixOf])]
        rfl
    · rw [if_neg h]
      have hp : ([13, 10] : Bytes).isPrefixOf (c :: r) = false := by
        cases r with
        | nil => simp [List.isPrefixOf]
        | cons d r =>
          simp only [List.head?_cons, Option.some.injEq] at h
          simp [List.isPrefixOf]
          intro h1 h2
          exact h ⟨h1.symm, h2.symm⟩
      rw [hp, if_neg (by decide), ih]
      cases crlf r with
      | none => rfl
      | some i =>
        simp only [Option.map_some]
        rw [if_neg (by first | (simp; done) | (simp; omega))]
        show (i : Int) + 1 = ((i + 1 : Nat) : Int)
        omega
theorem cut_crlf (s : ByteArray) (h : s.size ≤ 1000000000) : strings_Cut.f s (⟨#[13, 10]⟩ : ByteArray) = some (match crlf (bs s) with
    | some i => (str ((bs s).take i), str ((bs s).drop (i + 2)), true)
    | none => (s, str [], false)) := by
  unfold strings_Cut.f
  rw [if_pos (by omega)]
  congr 1
  have e : Lib.cut s.data.toList (⟨#[13, 10]⟩ : ByteArray).data.toList = Lib.cut (bs s) [13, 10] := rfl
  rw [e]
  unfold Lib.cut
  rw [index_crlf]
  cases crlf (bs s) with
  | none => simp [str_bs]
  | some i => simp
theorem index_one (c : UInt8) : ∀ (s : Bytes), Lib.index s [c] = (if upto c s = s.length then -1 else (upto c s : Int))
  | [] => rfl
  | d :: r => by
    have ih := index_one c r
    rw [Lib.index, upto]
    by_cases h : d = c
    · subst h
      rw [if_pos (by simp [List.isPrefixOf]), if_pos rfl, if_neg (by simp)]
      rfl
    · rw [if_neg (by simp [List.isPrefixOf]; exact fun e => h e.symm), if_neg h, ih]
      simp only [List.length_cons]
      by_cases h2 : upto c r = r.length
      · rw [if_pos h2, if_pos (by decide), if_pos (by omega)]
      · rw [if_neg h2, if_neg (by first | (simp; done) | (simp; omega)), if_neg (by omega)]; omega
theorem upto_le (c : UInt8) : ∀ s : Bytes, upto c s ≤ s.length
  | [] => by simp [upto]
  | d :: r => by
    have := upto_le c r
    unfold upto
    split <;> simp only [List.length_cons] <;> omega
theorem cut_one (s : ByteArray) (h : s.size ≤ 1000000000) : strings_Cut.f s (⟨#[58]⟩ : ByteArray) = some (if upto 58 (bs s) = (bs s).length then (s, str [], false) else (str ((bs s).take (upto 58 (bs s))), str ((bs s).drop (upto 58 (bs s) + 1)), true)) := by
  unfold strings_Cut.f
  rw [if_pos (by omega)]
  congr 1
  have e : Lib.cut s.data.toList (⟨#[58]⟩ : ByteArray).data.toList = Lib.cut (bs s) [58] := rfl
  rw [e]
  unfold Lib.cut
  rw [index_one]
  by_cases h2 : upto 58 (bs s) = (bs s).length
  · rw [if_pos h2, if_neg (by decide), if_pos h2]; simp [str_bs]
  · rw [if_neg h2, if_pos (by omega), if_neg h2]; simp
theorem textual_rounds (s : ByteArray) (hs : s.size ≤ 1000000000) : ∀ (l : Bytes) (k i : Nat), (bs s).drop i = l → i ≤ s.size → l.length < k → head_text.l0 k s (s.size : Int) (i : Int) = some (l.all textB) := by
  intro l
  induction l with
  | nil =>
    intro k i h hi hk
    obtain ⟨k, rfl⟩ : ∃ m, k = m + 1 := ⟨k - 1, by omega⟩
    have := drop_nil h
    rw [bs_length] at this
    rw [head_text.l0, if_neg (by omega)]
    rfl
  | cons c r ih =>
    intro k i h hi hk
    obtain ⟨k, rfl⟩ : ∃ m, k = m + 1 := ⟨k - 1, by omega⟩
    obtain ⟨h1, h2, h3, h4⟩ := drop_cons h
    rw [bs_length] at h1
    have hn := ih k (i + 1) h3 (by omega) (by simp only [List.length_cons] at hk; omega)
    rw [head_text.l0, if_pos (by omega), if_pos (by omega), if_pos (by omega), bt_drop h, wrap_succ i (by omega), hn]
    rw [List.all_cons]
    unfold textB
    by_cases a : c.toNat < 32
    · rw [if_pos (by omega)]
      by_cases b : c.toNat = 9
      · rw [if_pos (by omega), if_neg (by omega)]; simp [b]
      · rw [if_neg (by omega)]; simp [a, b]
    · rw [if_neg (by omega)]
      by_cases b : c.toNat = 127
      · rw [if_pos (by omega)]; simp [b]
      · rw [if_neg (by omega)]; simp [a, b]
theorem headtext_is (s : ByteArray) (hs : s.size ≤ 1000000000) (k : Nat) (hk : s.size < k) : head_text.f k s = some (textual (bs s)) := by
  unfold head_text.f
  exact textual_rounds s hs (bs s) k 0 (by simp) (by omega) (by rw [bs_length]; exact hk)
theorem named_rounds (s : ByteArray) (hs : s.size ≤ 1000000000) : ∀ (l : Bytes) (k i : Nat), (bs s).drop i = l → i ≤ s.size → l.length < k → head_named.l0 k s (s.size : Int) (i : Int) = some (l.all nameB && (!decide (bs s = []) && decide ((bs s).length ≤ 76))) := by
  intro l
  induction l with
  | nil =>
    intro k i h hi hk
    obtain ⟨k, rfl⟩ : ∃ m, k = m + 1 := ⟨k - 1, by omega⟩
    have := drop_nil h
    rw [bs_length] at this
    rw [head_named.l0, if_neg (by omega), toList_bs]
    by_cases e : bs s = []
    · rw [if_pos e]; simp [e]
    · rw [if_neg e, bs_length]
      simp [e]
      omega
  | cons c r ih =>
    intro k i h hi hk
    obtain ⟨k, rfl⟩ : ∃ m, k = m + 1 := ⟨k - 1, by omega⟩
    obtain ⟨h1, h2, h3, h4⟩ := drop_cons h
    rw [bs_length] at h1
    have hn := ih k (i + 1) h3 (by omega) (by simp only [List.length_cons] at hk; omega)
    rw [head_named.l0, if_pos (by omega), if_pos (by omega), if_pos (by omega), bt_drop h, wrap_succ i (by omega), hn]
    rw [List.all_cons]
    have hnb : nameB c = (!decide (c.toNat < 33) && (!decide (126 < c.toNat) && !decide (c.toNat = 58))) := rfl
    by_cases a : c.toNat < 33
    · rw [if_pos (by omega), hnb]; simp [a]
    · rw [if_neg (by omega)]
      by_cases b : 126 < c.toNat
      · rw [if_pos (by omega), hnb]; simp [b]
      · rw [if_neg (by omega)]
        by_cases d : c.toNat = 58
        · rw [if_pos (by omega), hnb]; simp [d]
        · rw [if_neg (by omega), hnb]; simp [a, b, d]
theorem headnamed_is (s : ByteArray) (hs : s.size ≤ 1000000000) (k : Nat) (hk : s.size < k) : head_named.f k s = some (named (bs s)) := by
  unfold head_named.f
  exact named_rounds s hs (bs s) k 0 (by simp) (by omega) (by rw [bs_length]; exact hk)
theorem wb_nat (c : UInt8) : wb c = (decide (c.toNat = 32) || decide (c.toNat = 9)) := by
  unfold wb
  simp only [List.contains_cons, List.contains_nil, Bool.or_false]
  have e : ∀ n : UInt8, (c == n) = decide (c.toNat = n.toNat) := fun n => by
    rw [Bool.eq_iff_iff, beq_iff_eq, decide_eq_true_iff]
    exact ⟨fun h => by rw [h], fun h => UInt8.toNat_inj.1 h⟩
  rw [e, e]
  rfl
theorem headwhite_is (s : ByteArray) : head_white.f s = some (wb ((bs s).headD 0)) := by
  unfold head_white.f
  rw [toList_bs]
  cases h : bs s with
  | nil => rw [if_pos rfl]; rfl
  | cons c r =>
    have hb : bt s 0 = (c.toNat : Int) := bt_drop (i := 0) (by rw [List.drop_zero]; exact h)
    have hz : 0 < (s.size : Int) := by
      have := bs_length s
      rw [h, List.length_cons] at this
      omega
    rw [if_neg (by simp), if_pos hz, hb, List.headD_cons, wb_nat]
    by_cases a : c.toNat = 32
    · rw [if_pos (by omega)]; simp [a]
    · rw [if_neg (by omega)]
      simp only [a, decide_false, Bool.false_or]
      congr 1
      rw [Bool.eq_iff_iff, beq_iff_eq, decide_eq_true_iff]
      omega
end Go.Proofs.YtbjbpgmjijeppaaGreatDoor.Pl
set_option linter.unusedVariables false
set_option linter.unusedSimpArgs false
namespace Go.Proofs.YtbjbpgmjijeppaaGreatDoor.Pl
open Go.RowKit Go.Proofs.YtbjbpgmjijeppaaGreatDoorW.PrintWords Go.Proofs.YtbjbpgmjijeppaaGreatDoor.Fn

/-! head.Parse computes the machine. -/
theorem rd_toP (l : List Fld) (i : Nat) : rd_T46 (l.map toP) (i : Int) = toP (l.getD i ([], [])) := by
  unfold rd_T46
  rw [Int.toNat_natCast, List.getD_eq_getElem?_getD, List.getD_eq_getElem?_getD, List.getElem?_map]
  cases l[i]? with
  | none => rfl
  | some x => rfl
theorem last_idx (n : Nat) (h : n ≤ 1000000000) (h0 : 0 < n) : wrap64 ((n : Int) - 1) = ((n - 1 : Nat) : Int) := by
  rw [wrap_id (by omega) (by omega)]
  omega
theorem headgrow_is (l : List Fld) (t : ByteArray) (ht : t.size ≤ 1000000000) (hl : l.length ≤ 1000000000) (hv : (l.getD (l.length - 1) ([], [])).2.length ≤ 1000000000) (k : Nat) (hk : t.size + 10 < k) :
    head_grow.f k (l.map toP) t = some ((growL l (bs t)).1.map toP, (growL l (bs t)).2) := by
  obtain ⟨k, rfl⟩ : ∃ m, k = m + 2 := ⟨k - 2, by omega⟩
  have hb := bs_length t
  unfold head_grow.f growL
  by_cases h1 : (t.size : Int) > 998
  · rw [if_pos h1, if_pos (by omega)]; rfl
  rw [if_neg h1, if_neg (by omega), headtext_is t ht _ (by omega), Option.bind_some]
  cases hx : textual (bs t) with
  | false => rw [if_neg (by decide), if_pos rfl, head_grow.j0, if_pos rfl]; rfl
  | true =>
    rw [if_pos rfl, if_neg (by decide), headwhite_is, Option.bind_some]
    cases hw : wb ((bs t).headD 0) with
    | true =>
      rw [if_pos rfl, if_pos rfl, head_grow.j0]
      by_cases h0 : l = []
      · subst h0
        rw [if_pos (by rfl), if_pos rfl]; rfl
      · have hlen : 0 < l.length := by
          cases l with
          | nil => exact absurd rfl h0
          | cons a l => simp
        rw [if_neg (by simp [h0]), if_neg h0, headwhite_is, hw, Option.bind_some, if_pos rfl, List.length_map, last_idx _ hl hlen, if_pos (by omega), if_pos (by omega), rd_toP]
        have hz : (toP (l.getD (l.length - 1) ([], []))).f1.size = (l.getD (l.length - 1) ([], [])).2.length := str_size _
        rw [if_pos (by rw [hz]; omega), Int.toNat_natCast]
        have e : (⟨(toP (l.getD (l.length - 1) ([], []))).f0, (toP (l.getD (l.length - 1) ([], []))).f1 ++ t⟩ : S46) = toP ((l.getD (l.length - 1) ([], [])).1, (l.getD (l.length - 1) ([], [])).2 ++ bs t) := by
          show (⟨_, str _ ++ t⟩ : S46) = ⟨_, str (_ ++ bs t)⟩
          rw [← str_app, str_bs]
          rfl
        rw [e, ← List.map_set]
        rfl
    | false =>
      rw [if_neg (by decide), if_neg (by decide), head_grow.j0, if_neg (by decide), headwhite_is, hw, Option.bind_some, if_neg (by decide), cut_one t ht, Option.bind_some]
      have hu := upto_le 58 (bs t)
      by_cases hc : upto 58 (bs t) = (bs t).length
      · rw [if_pos hc, if_pos hc]
        simp only []
        rw [if_neg (by decide), head_grow.j1, if_pos rfl]; rfl
      · rw [if_neg hc, if_neg hc]
        simp only []
        have hn := headnamed_is (str ((bs t).take (upto 58 (bs t)))) (by rw [str_size, List.length_take]; omega) (k + 1) (by rw [str_size, List.length_take]; omega)
        rw [if_pos trivial, hn, bs_str, Option.bind_some, head_grow.j1]
        cases hm : named ((bs t).take (upto 58 (bs t))) with
        | false => rw [if_pos (by decide), if_pos rfl]; rfl
        | true =>
          rw [if_neg (by decide), List.length_map]
          by_cases h100 : l.length = 100
          · rw [if_pos (by omega), if_neg (by decide), if_pos h100]; rfl
          · rw [if_neg (by omega), if_pos (by omega), if_neg (by decide), if_neg h100, List.map_append]
            rfl
theorem headtrim_is (s : ByteArray) (hs : s.size ≤ 1000000000) : head_trim.f s = some (str (trim (bs s))) := by
  unfold head_trim.f strings_Trim.f
  rw [if_pos (by omega), if_pos (by decide), if_pos (by decide)]
  rfl
theorem trim_step (m : List Fld) (i : Nat) (h : i < m.length) : (m.set i (trimF (m.getD i ([], [])))).take (i + 1) ++ ((m.set i (trimF (m.getD i ([], [])))).drop (i + 1)).map trimF = m.take i ++ (m.drop i).map trimF := by
  have h1 : (m.set i (trimF (m.getD i ([], [])))).take (i + 1) = m.take i ++ [trimF (m.getD i ([], []))] := by
    rw [List.take_set, List.take_add_one, List.getElem?_eq_getElem h, List.set_append, if_neg (by rw [List.length_take]; omega), List.length_take, Nat.min_eq_left (by omega)]
    simp
  have h2 : (m.set i (trimF (m.getD i ([], [])))).drop (i + 1) = m.drop (i + 1) := by
    rw [List.drop_set, if_pos (by omega)]
  rw [h1, h2, List.drop_eq_getElem_cons h, List.map_cons, List.append_assoc, List.getD_eq_getElem?_getD, List.getElem?_eq_getElem h]
  rfl
theorem trim_rounds (b : ByteArray) : ∀ (n : Nat) (m : List Fld) (i k : Nat), m.length = i + n → n < k → m.length ≤ 1000000000 → (∀ f ∈ m, f.2.length ≤ 1000000000) →
    head_Parse.l1 k (m.map toP) b (m.length : Int) (i : Int) = some ((m.take i ++ (m.drop i).map trimF).map toP, b, 0) := by
  intro n
  induction n with
  | zero =>
    intro m i k h hk hm hf
    obtain ⟨k, rfl⟩ : ∃ q, k = q + 1 := ⟨k - 1, by omega⟩
    rw [head_Parse.l1, if_neg (by omega), List.take_of_length_le (by omega), List.drop_of_length_le (by omega)]
    simp
  | succ n ih =>
    intro m i k h hk hm hf
    obtain ⟨k, rfl⟩ : ∃ q, k = q + 1 := ⟨k - 1, by omega⟩
    have hi : i < m.length := by omega
    have hg : m.getD i ([], []) ∈ m := by rw [List.getD_eq_getElem?_getD, List.getElem?_eq_getElem hi]; exact List.getElem_mem hi
    have ht := headtrim_is (str (m.getD i ([], [])).2) (by rw [str_size]; exact hf _ hg)
    have hn := ih (m.set i (trimF (m.getD i ([], [])))) (i + 1) k (by rw [List.length_set]; omega) (by omega) (by rw [List.length_set]; exact hm) (by
      intro f hfm
      rcases List.mem_or_eq_of_mem_set hfm with h1 | h1
      · exact hf f h1
      · subst h1
        have h2 : (trim (m.getD i ([], [])).2).length ≤ (m.getD i ([], [])).2.length := by
          unfold trim Lib.trimS Lib.trimLeftS Lib.trimRightS
          have e1 := (List.dropWhile_sublist (fun b => ([32, 9] : Bytes).contains b) (l := (List.dropWhile (fun b => ([32, 9] : Bytes).contains b) (m.getD i ([], [])).2.reverse).reverse)).length_le
          have e2 := (List.dropWhile_sublist (fun b => ([32, 9] : Bytes).contains b) (l := (m.getD i ([], [])).2.reverse)).length_le
          rw [List.length_reverse] at e1 e2
          exact Nat.le_trans e1 e2
        exact Nat.le_trans h2 (hf _ hg))
    rw [List.length_set] at hn
    rw [head_Parse.l1, if_pos (by omega), if_pos (by omega), if_pos (by rw [List.length_map]; omega), rd_toP]
    show (head_trim.f (str (m.getD i ([], [])).2)).bind _ = _
    rw [ht, Option.bind_some, bs_str, Int.toNat_natCast, wrap_succ i (by omega)]
    have e : (m.map toP).set i (⟨(toP (m.getD i ([], []))).f0, str (trim (m.getD i ([], [])).2)⟩ : S46) = (m.set i (trimF (m.getD i ([], [])))).map toP := by
      rw [List.map_set]; rfl
    rw [e, hn, trim_step m i hi]
theorem parse_end (b : ByteArray) (l : List Fld) (k : Nat) (hk : l.length + 2 < k) (hl : l.length ≤ 1000000000) (hf : ∀ f ∈ l, f.2.length ≤ 1000000000) : head_Parse.j1 k (l.map toP) b = some ((l.map trimF).map toP, b, 0) := by
  obtain ⟨k, rfl⟩ : ∃ q, k = q + 1 := ⟨k - 1, by omega⟩
  rw [head_Parse.j1, List.length_map]
  have := trim_rounds b l.length l 0 k (by omega) (by omega) hl hf
  simpa using this
def fits (T : Nat) (l : List Fld) (n : Nat) : Prop := l.length + n ≤ T ∧ ∀ f ∈ l, f.1.length + f.2.length + n ≤ T
theorem getD_last_mem {l : List Fld} (h : l ≠ []) : l.getD (l.length - 1) ([], []) ∈ l := by
  have h0 : l.length - 1 < l.length := by
    cases l with
    | nil => exact absurd rfl h
    | cons a l => simp
  rw [List.getD_eq_getElem?_getD, List.getElem?_eq_getElem h0]
  exact List.getElem_mem h0
theorem grow_fits {T n : Nat} {l : List Fld} {t : Bytes} (h : fits T l (t.length + 2 + n)) (h0 : (growL l t).2 = 0) : fits T (growL l t).1 n := by
  unfold growL at h0 ⊢
  by_cases h1 : 998 < t.length
  · rw [if_pos h1] at h0; exact absurd h0 (by simp)
  rw [if_neg h1] at h0 ⊢
  by_cases h2 : textual t = false
  · rw [if_pos h2] at h0; exact absurd h0 (by simp)
  rw [if_neg h2] at h0 ⊢
  by_cases h3 : wb (t.headD 0) = true
  · rw [if_pos h3] at h0 ⊢
    by_cases h4 : l = []
    · rw [if_pos h4] at h0; exact absurd h0 (by simp)
    · rw [if_neg h4] at h0 ⊢
      refine ⟨by have := h.1; unfold addLast; rw [List.length_set]; omega, fun f hf => ?_⟩
      unfold addLast at hf
      rcases List.mem_or_eq_of_mem_set hf with hf | hf
      · have := h.2 f hf; omega
      · subst hf
        have := h.2 _ (getD_last_mem h4)
        show (l.getD (l.length - 1) ([], [])).1.length + ((l.getD (l.length - 1) ([], [])).2 ++ t).length + n ≤ T
        rw [List.length_append]
        omega
  · rw [if_neg h3] at h0 ⊢
    by_cases h4 : upto 58 t = t.length
    · rw [if_pos h4] at h0; exact absurd h0 (by simp)
    rw [if_neg h4] at h0 ⊢
    by_cases h5 : named (t.take (upto 58 t)) = false
    · rw [if_pos h5] at h0; exact absurd h0 (by simp)
    rw [if_neg h5] at h0 ⊢
    by_cases h6 : l.length = 100
    · rw [if_pos h6] at h0; exact absurd h0 (by simp)
    rw [if_neg h6] at h0 ⊢
    refine ⟨by have := h.1; rw [List.length_append]; simp only [List.length_cons, List.length_nil]; omega, fun f hf => ?_⟩
    rcases List.mem_append.1 hf with hf | hf
    · have := h.2 f hf; omega
    · rw [List.mem_singleton] at hf
      subst hf
      have := h.1
      simp only [List.length_take, List.length_drop]
      omega
theorem parse_rounds (T : Nat) (hT : T ≤ 100000000) : ∀ (n : Nat) (s : Bytes) (l : List Fld) (k : Nat), s.length < n → fits T l s.length → T + n + 20 < k →
    head_Parse.l0 k (str s) (l.map toP) (str []) = some ((parseM n s l).1.map toP, str (parseM n s l).2.1, (parseM n s l).2.2) := by
  intro n
  induction n with
  | zero => intro s l k h; omega
  | succ n ih =>
    intro s l k hn hf hk
    obtain ⟨k, rfl⟩ : ∃ q, k = q + 1 := ⟨k - 1, by omega⟩
    have hlen := hf.1
    have hfm : ∀ f ∈ l, f.2.length ≤ 1000000000 := fun f h => by have := hf.2 f h; omega
    rw [head_Parse.l0, parseM, toList_str]
    by_cases h0 : s = []
    · rw [if_pos h0, if_pos h0, parse_end _ l k (by omega) (by omega) hfm]
    rw [if_neg h0, if_neg h0, cut_crlf (str s) (by rw [str_size]; omega), Option.bind_some, bs_str]
    cases hc : crlf s with
    | none => simp only []; rw [if_neg (by decide)]; rfl
    | some i =>
      have hr := crlf_room hc
      simp only []
      rw [if_pos trivial, toList_str]
      by_cases hi : i = 0
      · subst hi
        rw [if_pos (by rw [List.take_zero]), if_pos rfl, parse_end _ l k (by omega) (by omega) hfm]
      · have hne : s.take i ≠ [] := by
          intro e
          have := congrArg List.length e
          rw [List.length_take, List.length_nil] at this
          omega
        have hlast : (l.getD (l.length - 1) ([], [])).2.length ≤ 1000000000 := by
          by_cases e : l = []
          · subst e; simp
          · exact hfm _ (getD_last_mem e)
        rw [if_neg hne, if_neg hi, headgrow_is l (str (s.take i)) (by rw [str_size, List.length_take]; omega) (by omega) hlast k (by rw [str_size, List.length_take]; omega), Option.bind_some, bs_str]
        simp only []
        by_cases hg : (growL l (s.take i)).2 = 0
        · rw [if_pos hg, if_pos hg]
          have hd : (s.drop (i + 2)).length = s.length - (i + 2) := List.length_drop
          refine ih _ _ k (by omega) (grow_fits ?_ hg) (by omega)
          rw [hd, List.length_take, Nat.min_eq_left (by omega)]
          have e : i + 2 + (s.length - (i + 2)) = s.length := by omega
          rw [e]
          exact hf
        · rw [if_neg hg, if_neg hg]
          rfl
theorem headparse_is (s : ByteArray) (hs : s.size ≤ 100000000) (k : Nat) (hk : 2 * s.size + 40 < k) :
    head_Parse.f k s = some ((parseH (bs s)).1.map toP, str (parseH (bs s)).2.1, (parseH (bs s)).2.2) := by
  have hb := bs_length s
  unfold head_Parse.f parseH
  have := parse_rounds s.size hs ((bs s).length + 1) (bs s) [] k (by omega) ⟨by simp; omega, by simp⟩ (by omega)
  rw [str_bs] at this
  exact this
end Go.Proofs.YtbjbpgmjijeppaaGreatDoor.Pl
set_option linter.unusedVariables false
set_option linter.unusedSimpArgs false
namespace Go.Proofs.YtbjbpgmjijeppaaGreatDoor.Pl
end Go.Proofs.YtbjbpgmjijeppaaGreatDoor.Pl
namespace Go.Proofs.YtbjbpgmjijeppaaGreatDoor.Fn
open Go.RowKit Go.Shelf Go.Proofs.YtbjbpgmjijeppaaGreatDoorW.PrintWords

end Go.Proofs.YtbjbpgmjijeppaaGreatDoor.Fn
set_option linter.unusedVariables false
set_option linter.unusedSimpArgs false
namespace Go.Proofs.YtbjbpgmjijeppaaGreatDoor.Pl
end Go.Proofs.YtbjbpgmjijeppaaGreatDoor.Pl
namespace Go.Proofs.YtbjbpgmjijeppaaGreatDoor.Fn
open Go.RowKit Go.Shelf Go.Proofs.YtbjbpgmjijeppaaGreatDoorW.PrintWords Go.Proofs.YtbjbpgmjijeppaaGreatDoorW.PrintLast Go.Proofs.YtbjbpgmjijeppaaGreatDoorW.PrintMore

attribute [local go_sem] max2_int min2_int max_two min_two max_three min_three max_four min_four
attribute [local go_sem] Oper.semAt_some
end Go.Proofs.YtbjbpgmjijeppaaGreatDoor.Fn
namespace Go.Proofs.YtbjbpgmjijeppaaGreatDoor.Fn
open Go.RowKit Go.Proofs.YtbjbpgmjijeppaaGreatDoorW.PrintWords Go.Proofs.YtbjbpgmjijeppaaGreatDoorW.PrintLast Go.Proofs.YtbjbpgmjijeppaaGreatDoorW.PrintMore
attribute [local go_sem] max2_int min2_int max_two min_two max_three min_three max_four min_four
set_option linter.unusedVariables false
set_option linter.unusedSimpArgs false

/-! ### bulletinref15_blank: function 63 -/
def bulletinref15_blank.f (a0 : Int) : Option (Bool) := if a0 = 32 then (some true) else (some (a0 == 9))
end Go.Proofs.YtbjbpgmjijeppaaGreatDoor.Fn
namespace Go.Proofs.YtbjbpgmjijeppaaGreatDoor.Fn
open Go.RowKit Go.Proofs.YtbjbpgmjijeppaaGreatDoorW.PrintWords Go.Proofs.YtbjbpgmjijeppaaGreatDoorW.PrintLast Go.Proofs.YtbjbpgmjijeppaaGreatDoorW.PrintMore
attribute [local go_sem] max2_int min2_int max_two min_two max_three min_three max_four min_four
set_option linter.unusedVariables false
set_option linter.unusedSimpArgs false

/-! ### bulletinref15_Trim: function 65 -/
mutual
def bulletinref15_Trim.j1 : Nat → ByteArray → Option (ByteArray)
 | 0, _ => none
 | k + 1, x0 => bulletinref15_Trim.l1 k x0
def bulletinref15_Trim.l1 : Nat → ByteArray → Option (ByteArray)
 | 0, _ => none
 | k + 1, x0 => if (x0.size : Int) > 0 then (if 0 ≤ (wrap64 ((x0.size : Int) - 1)) then (if (wrap64 ((x0.size : Int) - 1)) < (x0.size : Int) then ((bulletinref15_blank.f (bt x0 (wrap64 ((x0.size : Int) - 1)))).bind fun t306 => (if t306 = true then (if (wrap64 ((x0.size : Int) - 1)) ≤ (x0.size : Int) then (bulletinref15_Trim.l1 k (x0.extract 0 ((wrap64 ((x0.size : Int) - 1)) : Int).toNat)) else (none)) else (some x0))) else (none)) else (none)) else (some x0)
def bulletinref15_Trim.l0 : Nat → ByteArray → Option (ByteArray)
 | 0, _ => none
 | k + 1, x0 => if (x0.size : Int) > 0 then (if 0 < (x0.size : Int) then ((bulletinref15_blank.f (bt x0 0)).bind fun t305 => (if t305 = true then (if 1 ≤ (x0.size : Int) then (bulletinref15_Trim.l0 k (x0.extract 1 x0.size)) else (none)) else (bulletinref15_Trim.j1 k x0))) else (none)) else (bulletinref15_Trim.j1 k x0)
end
def bulletinref15_Trim.f (k : Nat) (a0 : ByteArray) : Option (ByteArray) := bulletinref15_Trim.l0 k a0
end Go.Proofs.YtbjbpgmjijeppaaGreatDoor.Fn
namespace Go.Proofs.YtbjbpgmjijeppaaGreatDoor.Fn
open Go.RowKit Go.Proofs.YtbjbpgmjijeppaaGreatDoorW.PrintWords Go.Proofs.YtbjbpgmjijeppaaGreatDoorW.PrintLast Go.Proofs.YtbjbpgmjijeppaaGreatDoorW.PrintMore
attribute [local go_sem] max2_int min2_int max_two min_two max_three min_three max_four min_four
set_option linter.unusedVariables false
set_option linter.unusedSimpArgs false

/-! ### bulletinref15_line: function 61 -/
def bulletinref15_line.l0 : Nat → ByteArray → Int → Option (Int)
 | 0, _, _ => none
 | k + 1, x0, x3 => if (wrap64 (x3 + 1)) < (x0.size : Int) then (if 0 ≤ x3 then (if x3 < (x0.size : Int) then (if (bt x0 x3) = 13 then (if 0 ≤ (wrap64 (x3 + 1)) then (if (bt x0 (wrap64 (x3 + 1))) = 10 then (some x3) else (bulletinref15_line.l0 k x0 (wrap64 (x3 + 1)))) else (none)) else (bulletinref15_line.l0 k x0 (wrap64 (x3 + 1)))) else (none)) else (none)) else (some (-1))
def bulletinref15_line.f (k : Nat) (a0 : ByteArray) : Option (Int) := bulletinref15_line.l0 k a0 0
end Go.Proofs.YtbjbpgmjijeppaaGreatDoor.Fn
namespace Go.Proofs.YtbjbpgmjijeppaaGreatDoor.Fn
open Go.RowKit Go.Proofs.YtbjbpgmjijeppaaGreatDoorW.PrintWords Go.Proofs.YtbjbpgmjijeppaaGreatDoorW.PrintLast Go.Proofs.YtbjbpgmjijeppaaGreatDoorW.PrintMore
attribute [local go_sem] max2_int min2_int max_two min_two max_three min_three max_four min_four
set_option linter.unusedVariables false
set_option linter.unusedSimpArgs false

/-! ### bulletinref15_named: function 64 -/
def bulletinref15_named.l0 : Nat → ByteArray → Int → Option (Bool)
 | 0, _, _ => none
 | k + 1, x0, x3 => if x3 < (x0.size : Int) then (if 0 ≤ x3 then (if (bt x0 x3) < 33 then (some false) else (if (bt x0 x3) > 126 then (some false) else (if (bt x0 x3) = 58 then (some false) else (bulletinref15_named.l0 k x0 (wrap64 (x3 + 1)))))) else (none)) else (if (x0.size : Int) ≥ 1 then (some (decide ((x0.size : Int) ≤ 76))) else (some false))
def bulletinref15_named.f (k : Nat) (a0 : ByteArray) : Option (Bool) := bulletinref15_named.l0 k a0 0
end Go.Proofs.YtbjbpgmjijeppaaGreatDoor.Fn
namespace Go.Proofs.YtbjbpgmjijeppaaGreatDoor.Fn
open Go.RowKit Go.Proofs.YtbjbpgmjijeppaaGreatDoorW.PrintWords Go.Proofs.YtbjbpgmjijeppaaGreatDoorW.PrintLast Go.Proofs.YtbjbpgmjijeppaaGreatDoorW.PrintMore
attribute [local go_sem] max2_int min2_int max_two min_two max_three min_three max_four min_four
set_option linter.unusedVariables false
set_option linter.unusedSimpArgs false

/-! ### bulletinref15_textual: function 62 -/
def bulletinref15_textual.l0 : Nat → ByteArray → Int → Option (Bool)
 | 0, _, _ => none
 | k + 1, x0, x3 => if x3 < (x0.size : Int) then (if 0 ≤ x3 then (if (bt x0 x3) = 9 then (bulletinref15_textual.l0 k x0 (wrap64 (x3 + 1))) else (if (bt x0 x3) < 32 then (some false) else (if (bt x0 x3) = 127 then (some false) else (bulletinref15_textual.l0 k x0 (wrap64 (x3 + 1)))))) else (none)) else (some true)
def bulletinref15_textual.f (k : Nat) (a0 : ByteArray) : Option (Bool) := bulletinref15_textual.l0 k a0 0
end Go.Proofs.YtbjbpgmjijeppaaGreatDoor.Fn
namespace Go.Proofs.YtbjbpgmjijeppaaGreatDoor.Fn
open Go.RowKit Go.Proofs.YtbjbpgmjijeppaaGreatDoorW.PrintWords Go.Proofs.YtbjbpgmjijeppaaGreatDoorW.PrintLast Go.Proofs.YtbjbpgmjijeppaaGreatDoorW.PrintMore
attribute [local go_sem] max2_int min2_int max_two min_two max_three min_three max_four min_four
set_option linter.unusedVariables false
set_option linter.unusedSimpArgs false

/-! ### bulletinref15_Parse: function 37 -/
mutual
def bulletinref15_Parse.l0 : Nat → ByteArray → List (S67) → ByteArray → Int → Option ((List (S67)) × ByteArray × Int)
 | 0, _, _, _, _ => none
 | k + 1, x0, x5, x6, x7 => if x7 < (x0.size : Int) then (if 0 ≤ x7 then (if x7 ≤ (x0.size : Int) then ((bulletinref15_line.f k (x0.extract (x7 : Int).toNat x0.size)).bind fun t307 => (if t307 < 0 then (some (([] : List (S67)), (⟨#[]⟩ : ByteArray), 9)) else (if x7 ≤ (wrap64 (x7 + t307)) then (if (wrap64 (x7 + t307)) ≤ (x0.size : Int) then (if t307 = 0 then (if 0 ≤ (wrap64 ((wrap64 (x7 + t307)) + 2)) then (if (wrap64 ((wrap64 (x7 + t307)) + 2)) ≤ (x0.size : Int) then (bulletinref15_Parse.l0 k x0 x5 (x0.extract ((wrap64 ((wrap64 (x7 + t307)) + 2)) : Int).toNat x0.size) (x0.size : Int)) else (none)) else (none)) else (if t307 > 998 then (some (([] : List (S67)), (⟨#[]⟩ : ByteArray), 2)) else ((bulletinref15_textual.f k (x0.extract (x7 : Int).toNat ((wrap64 (x7 + t307)) : Int).toNat)).bind fun t308 => (if t308 = true then (if 0 < ((x0.extract (x7 : Int).toNat ((wrap64 (x7 + t307)) : Int).toNat).size : Int) then ((bulletinref15_blank.f (bt (x0.extract (x7 : Int).toNat ((wrap64 (x7 + t307)) : Int).toNat) 0)).bind fun t309 => (if t309 = true then (if (x5.length : Int) = 0 then (some (([] : List (S67)), (⟨#[]⟩ : ByteArray), 150)) else (if 0 ≤ (wrap64 ((x5.length : Int) - 1)) then (if (wrap64 ((x5.length : Int) - 1)) < (x5.length : Int) then (if ((rd_T67 x5 (wrap64 ((x5.length : Int) - 1))).f1).size + (x0.extract (x7 : Int).toNat ((wrap64 (x7 + t307)) : Int).toNat).size ≤ 9223372036854775807 then (bulletinref15_Parse.l0 k x0 (x5.set ((wrap64 ((x5.length : Int) - 1)) : Int).toNat (⟨(rd_T67 x5 (wrap64 ((x5.length : Int) - 1))).f0, ((rd_T67 x5 (wrap64 ((x5.length : Int) - 1))).f1) ++ (x0.extract (x7 : Int).toNat ((wrap64 (x7 + t307)) : Int).toNat)⟩ : S67)) x6 (wrap64 ((wrap64 (x7 + t307)) + 2))) else (none)) else (none)) else (none))) else (bulletinref15_Parse.l1 k x0 x5 x6 (wrap64 ((wrap64 (x7 + t307)) + 2)) (x0.extract (x7 : Int).toNat ((wrap64 (x7 + t307)) : Int).toNat) 0))) else (none)) else (some (([] : List (S67)), (⟨#[]⟩ : ByteArray), 150)))))) else (none)) else (none)))) else (none)) else (none)) else (bulletinref15_Parse.l2 k x5 x6 0)
def bulletinref15_Parse.j2 : Nat → ByteArray → List (S67) → ByteArray → Int → ByteArray → Int → Option ((List (S67)) × ByteArray × Int)
 | 0, _, _, _, _, _, _ => none
 | k + 1, x0, x5, x6, x7, x9, x10 => if x10 = (x9.size : Int) then (bulletinref15_Parse.j3 k x0 x5 x6 x7 x9 x10 true) else (if 0 ≤ x10 then (if x10 ≤ (x9.size : Int) then ((bulletinref15_named.f k (x9.extract 0 (x10 : Int).toNat)).bind fun t312 => (bulletinref15_Parse.j3 k x0 x5 x6 x7 x9 x10 (!t312))) else (none)) else (none))
def bulletinref15_Parse.j3 : Nat → ByteArray → List (S67) → ByteArray → Int → ByteArray → Int → Bool → Option ((List (S67)) × ByteArray × Int)
 | 0, _, _, _, _, _, _, _ => none
 | k + 1, x0, x5, x6, x7, x9, x10, x87 => if x87 = true then (some (([] : List (S67)), (⟨#[]⟩ : ByteArray), 150)) else (if (x5.length : Int) = 100 then (some (([] : List (S67)), (⟨#[]⟩ : ByteArray), 8)) else (if 0 ≤ x10 then (if x10 ≤ (x9.size : Int) then (if 0 ≤ (wrap64 (x10 + 1)) then (if (wrap64 (x10 + 1)) ≤ (x9.size : Int) then (if x5.length < 4398046511104 then (bulletinref15_Parse.l0 k x0 (x5 ++ [(⟨x9.extract 0 (x10 : Int).toNat, x9.extract ((wrap64 (x10 + 1)) : Int).toNat x9.size⟩ : S67)]) x6 x7) else (none)) else (none)) else (none)) else (none)) else (none)))
def bulletinref15_Parse.l1 : Nat → ByteArray → List (S67) → ByteArray → Int → ByteArray → Int → Option ((List (S67)) × ByteArray × Int)
 | 0, _, _, _, _, _, _ => none
 | k + 1, x0, x5, x6, x7, x9, x10 => if x10 < (x9.size : Int) then (if 0 ≤ x10 then (if (bt x9 x10) = 58 then (bulletinref15_Parse.j2 k x0 x5 x6 x7 x9 x10) else (bulletinref15_Parse.l1 k x0 x5 x6 x7 x9 (wrap64 (x10 + 1)))) else (none)) else (bulletinref15_Parse.j2 k x0 x5 x6 x7 x9 x10)
def bulletinref15_Parse.l2 : Nat → List (S67) → ByteArray → Int → Option ((List (S67)) × ByteArray × Int)
 | 0, _, _, _ => none
 | k + 1, x5, x6, x11 => if x11 < (x5.length : Int) then (if 0 ≤ x11 then ((bulletinref15_Trim.f k ((rd_T67 x5 x11).f1)).bind fun t317 => (bulletinref15_Parse.l2 k (x5.set (x11 : Int).toNat (⟨(rd_T67 x5 x11).f0, t317⟩ : S67)) x6 (wrap64 (x11 + 1)))) else (none)) else (some (x5, x6, 0))
end
end Go.Proofs.YtbjbpgmjijeppaaGreatDoor.Fn
set_option linter.unusedVariables false
set_option linter.unusedSimpArgs false
namespace Go.Proofs.YtbjbpgmjijeppaaGreatDoor.Pl
open Go.RowKit Go.Proofs.YtbjbpgmjijeppaaGreatDoorW.PrintWords Go.Proofs.YtbjbpgmjijeppaaGreatDoor.Fn

/-! The document's Parse computes the machine. -/
theorem crlf_two (c d : UInt8) (r : Bytes) : crlf (c :: d :: r) = if c = 13 ∧ d = 10 then some 0 else (crlf (d :: r)).map (· + 1) := by
  show (if c = 13 ∧ (d :: r).head? = some 10 then some 0 else (crlf (d :: r)).map (· + 1)) = _
  simp only [List.head?_cons, Option.some.injEq]
/-! Trim -/
end Go.Proofs.YtbjbpgmjijeppaaGreatDoor.Pl
set_option linter.unusedVariables false
set_option linter.unusedSimpArgs false
namespace Go.Proofs.YtbjbpgmjijeppaaGreatDoor.Pl
open Go.RowKit Go.Proofs.YtbjbpgmjijeppaaGreatDoorW.PrintWords Go.Proofs.YtbjbpgmjijeppaaGreatDoor.Fn

/-! The document's Parse: line by line. -/
end Go.Proofs.YtbjbpgmjijeppaaGreatDoor.Pl
set_option linter.unusedVariables false
set_option linter.unusedSimpArgs false
namespace Go.Proofs.YtbjbpgmjijeppaaGreatDoor.Pl
open Go.RowKit Go.Proofs.YtbjbpgmjijeppaaGreatDoorW.PrintWords Go.Proofs.YtbjbpgmjijeppaaGreatDoor.Fn

/-! A field as it is written: its lines. -/
def flat (l : List Bytes) : Bytes := l.flatMap fun x => x ++ [13, 10]
end Go.Proofs.YtbjbpgmjijeppaaGreatDoor.Pl
namespace Go.Proofs.YtbjbpgmjijeppaaGreatDoor.Fn
open Go.RowKit Go.Proofs.YtbjbpgmjijeppaaGreatDoorW.PrintWords Go.Proofs.YtbjbpgmjijeppaaGreatDoorW.PrintLast Go.Proofs.YtbjbpgmjijeppaaGreatDoorW.PrintMore
attribute [local go_sem] max2_int min2_int max_two min_two max_three min_three max_four min_four
set_option linter.unusedVariables false
set_option linter.unusedSimpArgs false

/-! ### bulletinref15_Lines: function 91 -/
mutual
def bulletinref15_Lines.j0 : Nat → List ByteArray → ByteArray → ByteArray → Option (List ByteArray)
 | 0, _, _, _ => none
 | k + 1, x3, x4, x5 => bulletinref15_Lines.l0 k x3 x4 x5 true 0
def bulletinref15_Lines.l0 : Nat → List ByteArray → ByteArray → ByteArray → Bool → Int → Option (List ByteArray)
 | 0, _, _, _, _, _ => none
 | k + 1, x3, x4, x5, x6, x7 => if x7 < (x5.size : Int) then (bulletinref15_Lines.l1 k x3 x4 x5 x6 x7 x7) else (if x3.length < 8796093022208 then (some (x3 ++ [x4])) else (none))
def bulletinref15_Lines.j3 : Nat → List ByteArray → ByteArray → ByteArray → Bool → Int → Int → Option (List ByteArray)
 | 0, _, _, _, _, _, _ => none
 | k + 1, x3, x4, x5, x6, x7, x8 => bulletinref15_Lines.l2 k x3 x4 x5 x6 x7 x8
def bulletinref15_Lines.l2 : Nat → List ByteArray → ByteArray → ByteArray → Bool → Int → Int → Option (List ByteArray)
 | 0, _, _, _, _, _, _ => none
 | k + 1, x3, x4, x5, x6, x7, x8 => if x8 < (x5.size : Int) then (if 0 ≤ x8 then ((bulletinref15_blank.f (bt x5 x8)).bind fun t337 => (if t337 = true then (if x6 = true then (if 0 ≤ x7 then (if x7 ≤ x8 then (if x8 ≤ (x5.size : Int) then (if x4.size + (x5.extract (x7 : Int).toNat (x8 : Int).toNat).size ≤ 9223372036854775807 then (bulletinref15_Lines.l0 k x3 (x4 ++ (x5.extract (x7 : Int).toNat (x8 : Int).toNat)) x5 false x8) else (none)) else (none)) else (none)) else (none)) else (if (wrap64 ((wrap64 ((x4.size : Int) + x8)) - x7)) > 78 then (if x3.length < 8796093022208 then (if 0 ≤ x7 then (if x7 ≤ x8 then (if x8 ≤ (x5.size : Int) then (if 0 + (x5.extract (x7 : Int).toNat (x8 : Int).toNat).size ≤ 9223372036854775807 then (bulletinref15_Lines.l0 k (x3 ++ [x4]) ((⟨#[]⟩ : ByteArray) ++ (x5.extract (x7 : Int).toNat (x8 : Int).toNat)) x5 false x8) else (none)) else (none)) else (none)) else (none)) else (none)) else (if 0 ≤ x7 then (if x7 ≤ x8 then (if x8 ≤ (x5.size : Int) then (if x4.size + (x5.extract (x7 : Int).toNat (x8 : Int).toNat).size ≤ 9223372036854775807 then (bulletinref15_Lines.l0 k x3 (x4 ++ (x5.extract (x7 : Int).toNat (x8 : Int).toNat)) x5 false x8) else (none)) else (none)) else (none)) else (none)))) else (bulletinref15_Lines.l2 k x3 x4 x5 x6 x7 (wrap64 (x8 + 1))))) else (none)) else (if x6 = true then (if 0 ≤ x7 then (if x7 ≤ x8 then (if x8 ≤ (x5.size : Int) then (if x4.size + (x5.extract (x7 : Int).toNat (x8 : Int).toNat).size ≤ 9223372036854775807 then (bulletinref15_Lines.l0 k x3 (x4 ++ (x5.extract (x7 : Int).toNat (x8 : Int).toNat)) x5 false x8) else (none)) else (none)) else (none)) else (none)) else (if (wrap64 ((wrap64 ((x4.size : Int) + x8)) - x7)) > 78 then (if x3.length < 8796093022208 then (if 0 ≤ x7 then (if x7 ≤ x8 then (if x8 ≤ (x5.size : Int) then (if 0 + (x5.extract (x7 : Int).toNat (x8 : Int).toNat).size ≤ 9223372036854775807 then (bulletinref15_Lines.l0 k (x3 ++ [x4]) ((⟨#[]⟩ : ByteArray) ++ (x5.extract (x7 : Int).toNat (x8 : Int).toNat)) x5 false x8) else (none)) else (none)) else (none)) else (none)) else (none)) else (if 0 ≤ x7 then (if x7 ≤ x8 then (if x8 ≤ (x5.size : Int) then (if x4.size + (x5.extract (x7 : Int).toNat (x8 : Int).toNat).size ≤ 9223372036854775807 then (bulletinref15_Lines.l0 k x3 (x4 ++ (x5.extract (x7 : Int).toNat (x8 : Int).toNat)) x5 false x8) else (none)) else (none)) else (none)) else (none))))
def bulletinref15_Lines.l1 : Nat → List ByteArray → ByteArray → ByteArray → Bool → Int → Int → Option (List ByteArray)
 | 0, _, _, _, _, _, _ => none
 | k + 1, x3, x4, x5, x6, x7, x8 => if x8 < (x5.size : Int) then (if 0 ≤ x8 then ((bulletinref15_blank.f (bt x5 x8)).bind fun t336 => (if t336 = true then (bulletinref15_Lines.l1 k x3 x4 x5 x6 x7 (wrap64 (x8 + 1))) else (bulletinref15_Lines.j3 k x3 x4 x5 x6 x7 x8))) else (none)) else (bulletinref15_Lines.j3 k x3 x4 x5 x6 x7 x8)
end
end Go.Proofs.YtbjbpgmjijeppaaGreatDoor.Fn
namespace Go.Proofs.YtbjbpgmjijeppaaGreatDoor.Fn
open Go.RowKit Go.Proofs.YtbjbpgmjijeppaaGreatDoorW.PrintWords Go.Proofs.YtbjbpgmjijeppaaGreatDoorW.PrintLast Go.Proofs.YtbjbpgmjijeppaaGreatDoorW.PrintMore
attribute [local go_sem] max2_int min2_int max_two min_two max_three min_three max_four min_four
set_option linter.unusedVariables false
set_option linter.unusedSimpArgs false

/-! ### bulletinref15_Show: function 68 -/
end Go.Proofs.YtbjbpgmjijeppaaGreatDoor.Fn
namespace Go.Proofs.YtbjbpgmjijeppaaGreatDoor.Fn
open Go.RowKit Go.Proofs.YtbjbpgmjijeppaaGreatDoorW.PrintWords Go.Proofs.YtbjbpgmjijeppaaGreatDoorW.PrintLast Go.Proofs.YtbjbpgmjijeppaaGreatDoorW.PrintMore
attribute [local go_sem] max2_int min2_int max_two min_two max_three min_three max_four min_four
set_option linter.unusedVariables false
set_option linter.unusedSimpArgs false

/-! ### bulletinref15_Print: function 40 -/
end Go.Proofs.YtbjbpgmjijeppaaGreatDoor.Fn
set_option linter.unusedVariables false
set_option linter.unusedSimpArgs false
namespace Go.Proofs.YtbjbpgmjijeppaaGreatDoor.Pl
open Go.RowKit Go.Proofs.YtbjbpgmjijeppaaGreatDoorW.PrintWords Go.Proofs.YtbjbpgmjijeppaaGreatDoor.Fn

/-! Layer 15: the document writes the same -/
end Go.Proofs.YtbjbpgmjijeppaaGreatDoor.Pl
set_option linter.unusedVariables false
set_option linter.unusedSimpArgs false
namespace Go.Proofs.YtbjbpgmjijeppaaGreatDoor.Pl
open Go.RowKit Go.Proofs.YtbjbpgmjijeppaaGreatDoorW.PrintWords Go.Proofs.YtbjbpgmjijeppaaGreatDoor.Fn

/-! Layer 14: so many addresses. -/
end Go.Proofs.YtbjbpgmjijeppaaGreatDoor.Pl
set_option linter.unusedVariables false
set_option linter.unusedSimpArgs false
namespace Go.Proofs.YtbjbpgmjijeppaaGreatDoor.Pl
open Go.RowKit Go.Proofs.YtbjbpgmjijeppaaGreatDoorW.PrintWords Go.Proofs.YtbjbpgmjijeppaaGreatDoor.Fn

/-! Layer 14: what the program's functions compute -/
end Go.Proofs.YtbjbpgmjijeppaaGreatDoor.Pl
set_option linter.unusedVariables false
namespace Go.Proofs.YtbjbpgmjijeppaaGreatDoor.Pl
open Go.RowKit Go.Proofs.YtbjbpgmjijeppaaGreatDoorW.PrintWords Go.Proofs.YtbjbpgmjijeppaaGreatDoor.Fn
set_option maxRecDepth 100000 in
theorem works16 (k : Nat) (hk : 200 ≤ k) : bulletinlaw16_works.f k = some true := mono_up (fun k => bulletinlaw16_works.mono k) (show bulletinlaw16_works.f 200 = some true by decide +kernel) k hk
end Go.Proofs.YtbjbpgmjijeppaaGreatDoor.Pl
namespace Go.Proofs.YtbjbpgmjijeppaaGreatDoor.Fn
open Go.RowKit Go.Proofs.YtbjbpgmjijeppaaGreatDoorW.PrintWords Go.Proofs.YtbjbpgmjijeppaaGreatDoorW.PrintLast Go.Proofs.YtbjbpgmjijeppaaGreatDoorW.PrintMore
attribute [local go_sem] max2_int min2_int max_two min_two max_three min_three max_four min_four
set_option linter.unusedVariables false
set_option linter.unusedSimpArgs false

/-! ### bulletinlaw15_Light: function 42 -/
mutual
def bulletinlaw15_Light.l0 : Nat → List (S67) → Int → Option (Bool)
 | 0, _, _ => none
 | k + 1, x0, x3 => if x3 < (x0.length : Int) then (bulletinlaw15_Light.j1 k x0 x3 (decide (x3 < 30))) else (bulletinlaw15_Light.j1 k x0 x3 false)
def bulletinlaw15_Light.j1 : Nat → List (S67) → Int → Bool → Option (Bool)
 | 0, _, _, _ => none
 | k + 1, x0, x3, x11 => if x11 = true then (if 0 ≤ x3 then (if x3 < (x0.length : Int) then (if (((rd_T67 x0 x3).f0).size : Int) > 200 then (some false) else (if (((rd_T67 x0 x3).f1).size : Int) > 3000 then (some false) else (bulletinlaw15_Light.l0 k x0 (wrap64 (x3 + 1))))) else (none)) else (none)) else (some (decide ((x0.length : Int) ≤ 30)))
end
end Go.Proofs.YtbjbpgmjijeppaaGreatDoor.Fn
namespace Go.Proofs.YtbjbpgmjijeppaaGreatDoor.Fn
open Go.RowKit Go.Proofs.YtbjbpgmjijeppaaGreatDoorW.PrintWords Go.Proofs.YtbjbpgmjijeppaaGreatDoorW.PrintLast Go.Proofs.YtbjbpgmjijeppaaGreatDoorW.PrintMore
attribute [local go_sem] max2_int min2_int max_two min_two max_three min_three max_four min_four
set_option linter.unusedVariables false
set_option linter.unusedSimpArgs false

/-! ### bulletinlaw15_To: function 43 -/
end Go.Proofs.YtbjbpgmjijeppaaGreatDoor.Fn
namespace Go.Proofs.YtbjbpgmjijeppaaGreatDoor.Fn
open Go.RowKit Go.Proofs.YtbjbpgmjijeppaaGreatDoorW.PrintWords Go.Proofs.YtbjbpgmjijeppaaGreatDoorW.PrintLast Go.Proofs.YtbjbpgmjijeppaaGreatDoorW.PrintMore
attribute [local go_sem] max2_int min2_int max_two min_two max_three min_three max_four min_four
set_option linter.unusedVariables false
set_option linter.unusedSimpArgs false

/-! ### bulletinlaw15_Same: function 38 -/
end Go.Proofs.YtbjbpgmjijeppaaGreatDoor.Fn
set_option linter.unusedVariables false
set_option linter.unusedSimpArgs false
namespace Go.Proofs.YtbjbpgmjijeppaaGreatDoor.Pl
open Go.RowKit Go.Proofs.YtbjbpgmjijeppaaGreatDoorW.PrintWords Go.Proofs.YtbjbpgmjijeppaaGreatDoor.Fn

end Go.Proofs.YtbjbpgmjijeppaaGreatDoor.Pl
set_option linter.unusedVariables false
set_option linter.unusedSimpArgs false
namespace Go.Proofs.YtbjbpgmjijeppaaGreatDoor.Pl
open Go.RowKit Go.Proofs.YtbjbpgmjijeppaaGreatDoorW.PrintWords Go.Proofs.YtbjbpgmjijeppaaGreatDoor.Fn

end Go.Proofs.YtbjbpgmjijeppaaGreatDoor.Pl
namespace Go.Proofs.YtbjbpgmjijeppaaGreatDoor.Fn
open Go.RowKit Go.Proofs.YtbjbpgmjijeppaaGreatDoorW.PrintWords Go.Proofs.YtbjbpgmjijeppaaGreatDoorW.PrintLast Go.Proofs.YtbjbpgmjijeppaaGreatDoorW.PrintMore
attribute [local go_sem] max2_int min2_int max_two min_two max_three min_three max_four min_four
set_option linter.unusedVariables false
set_option linter.unusedSimpArgs false

/-! ### bulletinlaw16_Same: function 12 -/
end Go.Proofs.YtbjbpgmjijeppaaGreatDoor.Fn
namespace Go.Proofs.YtbjbpgmjijeppaaGreatDoor.Fn
open Go.RowKit Go.Proofs.YtbjbpgmjijeppaaGreatDoorW.PrintWords Go.Proofs.YtbjbpgmjijeppaaGreatDoorW.PrintLast Go.Proofs.YtbjbpgmjijeppaaGreatDoorW.PrintMore
attribute [local go_sem] max2_int min2_int max_two min_two max_three min_three max_four min_four
set_option linter.unusedVariables false
set_option linter.unusedSimpArgs false

/-! ### bulletinref16_Parse: function 11 -/
end Go.Proofs.YtbjbpgmjijeppaaGreatDoor.Fn
namespace Go.Proofs.YtbjbpgmjijeppaaGreatDoor.Fn
open Go.RowKit Go.Proofs.YtbjbpgmjijeppaaGreatDoorW.PrintWords Go.Proofs.YtbjbpgmjijeppaaGreatDoorW.PrintLast Go.Proofs.YtbjbpgmjijeppaaGreatDoorW.PrintMore
attribute [local go_sem] max2_int min2_int max_two min_two max_three min_three max_four min_four
set_option linter.unusedVariables false
set_option linter.unusedSimpArgs false

/-! ### bulletinref16_Text: function 14 -/
end Go.Proofs.YtbjbpgmjijeppaaGreatDoor.Fn
namespace Go.Proofs.YtbjbpgmjijeppaaGreatDoor.Fn
open Go.RowKit Go.Proofs.YtbjbpgmjijeppaaGreatDoorW.PrintWords Go.Proofs.YtbjbpgmjijeppaaGreatDoorW.PrintLast Go.Proofs.YtbjbpgmjijeppaaGreatDoorW.PrintMore
attribute [local go_sem] max2_int min2_int max_two min_two max_three min_three max_four min_four
set_option linter.unusedVariables false
set_option linter.unusedSimpArgs false

/-! ### bulletinlaw16_MsgReads: function 3 -/
end Go.Proofs.YtbjbpgmjijeppaaGreatDoor.Fn
set_option linter.unusedVariables false
set_option linter.unusedSimpArgs false
namespace Go.Proofs.YtbjbpgmjijeppaaGreatDoor.Pl
open Go.RowKit Go.Proofs.YtbjbpgmjijeppaaGreatDoorW.PrintWords Go.Proofs.YtbjbpgmjijeppaaGreatDoor.Fn

def parseN (s : Bytes) : List Fld × Bytes × Int := if (parseH s).2.2 = 0 then ((parseH s).1, (parseH s).2.1, 0) else ([], [], (parseH s).2.2)
theorem msgparse_is (s : ByteArray) (hs : s.size ≤ 65536) (k : Nat) (hk : 2 * s.size + 40 < k) : msg_Parse.f k s = some ((parseN (bs s)).1.map toP, str (parseN (bs s)).2.1, (parseN (bs s)).2.2) := by
  unfold msg_Parse.f parseN
  rw [if_neg (by omega), headparse_is s (by omega) k hk, Option.bind_some]
  by_cases h : (parseH (bs s)).2.2 = 0
  · rw [if_pos h, if_pos h]
  · rw [if_neg h, if_neg h]; rfl
end Go.Proofs.YtbjbpgmjijeppaaGreatDoor.Pl
set_option linter.unusedVariables false
set_option linter.unusedSimpArgs false
namespace Go.Proofs.YtbjbpgmjijeppaaGreatDoor.Pl
open Go.RowKit Go.Proofs.YtbjbpgmjijeppaaGreatDoorW.PrintWords Go.Proofs.YtbjbpgmjijeppaaGreatDoor.Fn

/-! Layer 16: how long a message may be -/
def fillL (n i : Nat) : List Int := List.replicate i 120 ++ List.replicate (n - i) 0
theorem fillL_length {n i : Nat} (h : i ≤ n) : (fillL n i).length = n := by
  unfold fillL
  rw [List.length_append, List.length_replicate, List.length_replicate]
  omega
theorem fillL_set {n i : Nat} (h : i < n) : (fillL n i).set i 120 = fillL n (i + 1) := by
  unfold fillL
  rw [List.set_append, if_neg (by rw [List.length_replicate]; omega), List.length_replicate, Nat.sub_self, show n - i = (n - (i + 1)) + 1 by omega, List.replicate_succ, List.set_cons_zero, List.replicate_succ', List.append_assoc]
  rfl
theorem long_l0 (n : Nat) (hn : n ≤ 66000) (b : ByteArray) : ∀ (d i K : Nat), i + d = n →
    bulletinlaw16_MsgLong.l0 (K + d) (n : Int) b (fillL n i) (n : Int) (i : Int) = bulletinlaw16_MsgLong.l0 K (n : Int) b (fillL n n) (n : Int) (n : Int)
  | 0, i, K, h => by
    have : i = n := by omega
    subst this; rfl
  | d + 1, i, K, h => by
    rw [show K + (d + 1) = (K + d) + 1 by omega, bulletinlaw16_MsgLong.l0, if_pos (by omega), if_pos (by omega), if_pos (by rw [fillL_length (by omega)]; omega), Int.toNat_natCast, fillL_set (by omega), wrap_succ i (by omega)]
    exact long_l0 n hn b d (i + 1) K (by omega)
theorem fill_nums (m : Nat) : strOfNums (List.replicate m (120 : Int)) = str (List.replicate m 120) := by
  rw [← strOfNums_of]
  congr 1
  unfold numsOf
  rw [List.map_replicate]
  rfl
theorem parse_long (m : Nat) : parseN (13 :: 10 :: List.replicate m 120) = ([], List.replicate m 120, 0) := by
  have h : parseH (13 :: 10 :: List.replicate m 120) = ([], List.replicate m 120, 0) := by
    unfold parseH
    rw [parseM, if_neg (by simp), crlf_two, if_pos ⟨rfl, rfl⟩]
    rfl
  unfold parseN
  rw [h]
  rfl
theorem get_none (k : Nat) (hk : 1 ≤ k) (b n : ByteArray) : msg_Message_Get.f k [] b n = some ⟨#[]⟩ := by
  obtain ⟨k, rfl⟩ : ∃ j, k = j + 1 := ⟨k - 1, by omega⟩
  rfl
theorem MsgLong (n : Int) (b : ByteArray) : ∃ k, bulletinlaw16_MsgLong.f k n b = some true := by
  obtain ⟨M, hM⟩ : ∃ M : Nat, M = 300000 := ⟨_, rfl⟩
  have fin : bulletinlaw16_MsgLong.j0 (M + 66002 + 1) n b true = some true := by
    rw [bulletinlaw16_MsgLong.j0, if_pos rfl, works16 (M + 66002) (by omega), Option.bind_some]
  refine ⟨M + 66002 + 1, ?_⟩
  unfold bulletinlaw16_MsgLong.f
  by_cases h1 : n < 4
  · rw [if_pos h1]; exact fin
  by_cases h2 : n > 66000
  · rw [if_neg h1, if_pos h2]; exact fin
  by_cases h3 : (b.size : Int) > 100
  · rw [if_neg h1, if_neg h2, decide_eq_true h3]; exact fin
  rw [if_neg h1, if_neg h2, decide_eq_false h3]
  obtain ⟨n, rfl⟩ : ∃ m : Nat, n = (m : Int) := ⟨n.toNat, by omega⟩
  have e0 : (List.replicate ((n : Int).toNat) 0 : List Int) = fillL n 0 := by
    unfold fillL
    rw [Int.toNat_natCast]
    rfl
  have ed : (fillL n n).drop 2 = List.replicate (n - 2) 120 := by
    unfold fillL
    rw [Nat.sub_self, List.replicate_zero, List.append_nil, List.drop_replicate]
  rw [bulletinlaw16_MsgLong.j0, if_neg (by decide), if_pos (by omega), if_pos (by omega), Option.bind_some, e0, fillL_length (Nat.zero_le _)]
  obtain ⟨K, hK⟩ : ∃ K, M + 66002 = K + 1 + n := ⟨M + 66001 - n, by omega⟩
  rw [hK, show (0 : Int) = ((0 : Nat) : Int) from rfl, long_l0 n (by omega) b n 0 (K + 1) (by omega), bulletinlaw16_MsgLong.l0, if_neg (by omega), if_pos (by rw [fillL_length (Nat.le_refl _)]; omega), Option.bind_some, ed, fill_nums, str_lit #[13, 10], if_pos (by rw [str_size, List.length_replicate]; omega), str_app]
  have hl : (str ([13, 10] ++ List.replicate (n - 2) 120)).size = n := by rw [str_size]; simp; omega
  by_cases hg : (n : Int) > 65536
  · rw [show msg_Parse.f K (str ([13, 10] ++ List.replicate (n - 2) 120)) = some ([], ⟨#[]⟩, 2) from by unfold msg_Parse.f; rw [if_pos (by rw [hl]; exact hg)], Option.bind_some, if_pos hg]
    simp only []
    refine (if_pos (by trivial)).trans ((if_pos (by show (str []).toList = []; rw [toList_str])).trans ((if_pos (by rfl)).trans ?_))
    rw [works16 K (by omega), Option.bind_some]
  · rw [msgparse_is _ (by rw [hl]; omega) K (by rw [hl]; omega), Option.bind_some, if_neg hg, bs_str, show ([13, 10] ++ List.replicate (n - 2) 120 : Bytes) = 13 :: 10 :: List.replicate (n - 2) 120 from rfl, parse_long]
    simp only [List.map_nil]
    refine (if_pos (by trivial)).trans ((if_pos (by rw [str_size, List.length_replicate, wrap_id (by omega) (by omega)]; omega)).trans ((if_pos (by rfl)).trans ?_))
    rw [get_none K (by omega), Option.bind_some]
    refine (if_pos (by show (str []).toList = []; rw [toList_str])).trans ?_
    rw [works16 K (by omega), Option.bind_some]
end Go.Proofs.YtbjbpgmjijeppaaGreatDoor.Pl
