/- A part of the proof of this sentence: The lines of a body, each with its end behind it, are the body, but for an end that may lack at its end; none of them has an end in it; the tables of unicode/utf8 are as the program's text lays them. -/
import Derived.Test.YtbjbpgmjijeppaaDoorCMsgJoins3
namespace Go.Proofs.YtbjbpgmjijeppaaDoor.Fn
open Go.RowKit Go.Proofs.YtbjbpgmjijeppaaDoorW.PrintWords Go.Proofs.YtbjbpgmjijeppaaDoorW.PrintLast Go.Proofs.YtbjbpgmjijeppaaDoorW.PrintMore
attribute [local go_sem] max2_int min2_int max_two min_two max_three min_three max_four min_four
set_option linter.unusedVariables false
set_option linter.unusedSimpArgs false

/-! ### head_Parse: function 68 -/
mutual
def head_Parse.j1 : Nat → List (S126) → ByteArray → Option ((List (S126)) × ByteArray × Int)
 | 0, _, _ => none
 | k + 1, x2, x3 => head_Parse.l1 k x2 x3 (x2.length : Int) 0
def head_Parse.l1 : Nat → List (S126) → ByteArray → Int → Int → Option ((List (S126)) × ByteArray × Int)
 | 0, _, _, _, _ => none
 | k + 1, x2, x3, x33, x34 => if x34 < x33 then (if 0 ≤ x34 then (if x34 < (x2.length : Int) then ((head_trim.f ((rd_T126 x2 x34).f1)).bind fun t473 => (head_Parse.l1 k (x2.set (x34 : Int).toNat (⟨(rd_T126 x2 x34).f0, t473⟩ : S126)) x3 x33 (wrap64 (x34 + 1)))) else (none)) else (none)) else (some (x2, x3, 0))
def head_Parse.l0 : Nat → ByteArray → List (S126) → ByteArray → Option ((List (S126)) × ByteArray × Int)
 | 0, _, _, _ => none
 | k + 1, x0, x2, x3 => if x0.toList = ([] : List UInt8) then (head_Parse.j1 k x2 x3) else ((strings_Cut.f x0 (⟨#[13, 10]⟩ : ByteArray)).bind fun bt465 => (if bt465.2.2 = true then (if bt465.1.toList = ([] : List UInt8) then (head_Parse.j1 k x2 bt465.2.1) else ((head_grow.f k x2 bt465.1).bind fun bt468 => (if bt468.2 = 0 then (head_Parse.l0 k bt465.2.1 bt468.1 x3) else (some (([] : List (S126)), (⟨#[]⟩ : ByteArray), bt468.2))))) else (some (([] : List (S126)), (⟨#[]⟩ : ByteArray), 9))))
end
def head_Parse.f (k : Nat) (a0 : ByteArray) : Option ((List (S126)) × ByteArray × Int) := head_Parse.l0 k a0 ([] : List (S126)) (⟨#[]⟩ : ByteArray)
theorem head_Parse.mono_l : ∀ k, (∀ y0 y1, LeO (head_Parse.j1 k y0 y1) (head_Parse.j1 (k + 1) y0 y1)) ∧ (∀ y0 y1 y2 y3, LeO (head_Parse.l1 k y0 y1 y2 y3) (head_Parse.l1 (k + 1) y0 y1 y2 y3)) ∧ (∀ y0 y1 y2, LeO (head_Parse.l0 k y0 y1 y2) (head_Parse.l0 (k + 1) y0 y1 y2))
 | 0 => ⟨fun _ _ r h => by simp [head_Parse.j1] at h, fun _ _ _ _ r h => by simp [head_Parse.l1] at h, fun _ _ _ r h => by simp [head_Parse.l0] at h⟩
 | k + 1 => by
  obtain ⟨ih0, ih1, ih2⟩ := head_Parse.mono_l k
  refine ⟨?_, ?_, ?_⟩
  ·intro y0 y1
   unfold head_Parse.j1
   repeat' first
   | (with_reducible exact ih0 _ _)
   | (with_reducible exact ih1 _ _ _ _)
   | (with_reducible exact ih2 _ _ _)
   | (with_reducible exact head_grow.mono _ _ _)
   | (with_reducible exact LeO.refl _)
   | (with_reducible exact LeO.none _)
   | (with_reducible refine LeO.ite ?_ ?_)
   | (with_reducible refine LeO.bind ?_ (fun _ => ?_))
   | exact ih0 _ _
   | exact ih1 _ _ _ _
   | exact ih2 _ _ _
   | exact head_grow.mono _ _ _
   | exact LeO.none _
   | refine LeO.ite ?_ ?_
   | refine LeO.bind ?_ (fun _ => ?_)
  ·intro y0 y1 y2 y3
   unfold head_Parse.l1
   repeat' first
   | (with_reducible exact ih0 _ _)
   | (with_reducible exact ih1 _ _ _ _)
   | (with_reducible exact ih2 _ _ _)
   | (with_reducible exact head_grow.mono _ _ _)
   | (with_reducible exact LeO.refl _)
   | (with_reducible exact LeO.none _)
   | (with_reducible refine LeO.ite ?_ ?_)
   | (with_reducible refine LeO.bind ?_ (fun _ => ?_))
   | exact ih0 _ _
   | exact ih1 _ _ _ _
   | exact ih2 _ _ _
   | exact head_grow.mono _ _ _
   | exact LeO.none _
   | refine LeO.ite ?_ ?_
   | refine LeO.bind ?_ (fun _ => ?_)
  ·intro y0 y1 y2
   unfold head_Parse.l0
   repeat' first
   | (with_reducible exact ih0 _ _)
   | (with_reducible exact ih1 _ _ _ _)
   | (with_reducible exact ih2 _ _ _)
   | (with_reducible exact head_grow.mono _ _ _)
   | (with_reducible exact LeO.refl _)
   | (with_reducible exact LeO.none _)
   | (with_reducible refine LeO.ite ?_ ?_)
   | (with_reducible refine LeO.bind ?_ (fun _ => ?_))
   | exact ih0 _ _
   | exact ih1 _ _ _ _
   | exact ih2 _ _ _
   | exact head_grow.mono _ _ _
   | exact LeO.none _
   | refine LeO.ite ?_ ?_
   | refine LeO.bind ?_ (fun _ => ?_)
theorem head_Parse.mono : ∀ a0 k, LeO (head_Parse.f k a0) (head_Parse.f (k + 1) a0) := by
 intro a0 k
 obtain ⟨ih0, ih1, ih2⟩ := head_Parse.mono_l k
 unfold head_Parse.f
 repeat' first
   | (with_reducible exact ih0 _ _)
   | (with_reducible exact ih1 _ _ _ _)
   | (with_reducible exact ih2 _ _ _)
   | (with_reducible exact head_grow.mono _ _ _)
   | (with_reducible exact LeO.refl _)
   | (with_reducible exact LeO.none _)
   | (with_reducible refine LeO.ite ?_ ?_)
   | (with_reducible refine LeO.bind ?_ (fun _ => ?_))
   | exact ih0 _ _
   | exact ih1 _ _ _ _
   | exact ih2 _ _ _
   | exact head_grow.mono _ _ _
   | exact LeO.none _
   | refine LeO.ite ?_ ?_
   | refine LeO.bind ?_ (fun _ => ?_)
set_option maxHeartbeats 8000000 in
set_option maxRecDepth 100000 in
theorem head_Parse.calls (k : Nat) (a0 : ByteArray) (r1 : List (S126)) (r2 : ByteArray) (r3 : Int) (w : World) (hG : Glob w) (h : head_Parse.f k a0 = some (r1, r2, r3)) :
  Calls Tryd.prog 68 #[.string a0] w fun e w' => ∃ v0_ : Value, e = .returned (.tuple #[v0_, .string r2, .int .i64 r3]) ∧ Kd.R k126 126 w' w.heap.size (fun _ => True) v0_ r1 ∧ Below w.heap.size w w' := by
 have HB := Aside0.mk (Below.refl w.heap.size w)
 have H : (head_Parse.l0 k a0 ([] : List (S126)) (⟨#[]⟩ : ByteArray)) = some (r1, r2, r3) := h
 clear h
 have HC2 := Aside0.mk H
 clear H
 go_enter Tryd.func68, Tryd.ntmps68
 go_upto_block 0 with (fail)
 go_cut [2, 3] (fun v2 v3 wc => ∃ (kq : Nat) (x2_1 : List (S126)) (x3_1 : ByteArray), v3 = .string x3_1 ∧ Aside0 (head_Parse.j1 kq x2_1 x3_1 = some (r1, r2, r3)) ∧ Aside0 (kq ≤ k) ∧ Aside0 (Kd.R k126 126 wc w.heap.size (fun _ => True) v2 x2_1) ∧ Aside0 (Below w.heap.size w wc))
 case first =>
  have H := HC2.out
  clear HC2
  have H' := Aside0.mk H
  clear H
  go_wp2
  go_loopg [0, 2, 3] k (fun kq v0 v2 v3 w' => ∃ (x0_1 : ByteArray) (x2_1 : List (S126)) (x3_1 : ByteArray), v0 = .string x0_1 ∧ v3 = .string x3_1 ∧ Aside0 (head_Parse.l0 kq x0_1 x2_1 x3_1 = some (r1, r2, r3)) ∧ Aside0 (kq ≤ k) ∧ Aside0 (Kd.R k126 126 w' w.heap.size (fun _ => True) v2 x2_1) ∧ Aside0 (Below w.heap.size w w'))
  case atStart => exact ⟨(a0), (([] : List (S126))), ((⟨#[]⟩ : ByteArray)), cl, cl, H', ⟨Nat.le_refl _⟩, ⟨by first | exact Kd.R_nil _ _ _ _ _ | exact Kd.N_nil _ _ _ _ _ | exact Kd.V_nil _ _ _ _ _ | exact Kd.Q_nil _ _ _ _ _ | exact Kd.S_nil _ _ _ _ _⟩, ⟨bw⟩⟩
  case round =>
   clear H'
   try clear p2
   obtain ⟨x0_1, x2_1, x3_1, rfl, rfl, HA, HK1, HO_2, HB⟩ := hrel
   cases gk with
   | zero => exact absurd HA.out (by simp [head_Parse.l0])
   | succ k1 =>
    have H := HA.out
    clear HA
    simp only [head_Parse.l0] at H
    by_cases c3 : x0_1.toList = ([] : List UInt8)
    ·rw [if_pos c3] at H
     have c3b0 : (x0_1.toList == ([] : List UInt8)) = true := beq_iff_eq.mpr c3
     have c3b1 : (x0_1.toList != ([] : List UInt8)) = false := bne_eq_false_iff_eq.mpr c3
     clear c3
     (first | rw [c3b0] | (simp only [i64_w, i32_w]; rw [c3b0]) | skip)
     have H' := Aside0.mk H
     clear H
     go_wp2
     go_meet
     case rel => exact ⟨_, (x2_1), (x3_1), cl, H', ⟨by have := HK1.out; first | omega | exact Nat.le_refl _⟩, ⟨by (with_reducible repeat (first | apply Kd.R_alloc | apply Kd.R_drewN | apply Kd.R_drew)); exact HO_2.out⟩, ⟨bw⟩⟩
    ·rw [if_neg c3] at H
     have c3b0 : (x0_1.toList == ([] : List UInt8)) = false := beq_eq_false_iff_ne.mpr c3
     have c3b1 : (x0_1.toList != ([] : List UInt8)) = true := bne_iff_ne.mpr c3
     (first | rw [c3b0] | (simp only [i64_w, i32_w]; rw [c3b0]) | skip)
     replace H := Option.bind_eq_some_iff.mp H
     obtain ⟨⟨t465, t466, t467⟩, A40, H⟩ := H
     replace H : (if t467 = true then (if t465.toList = ([] : List UInt8) then (head_Parse.j1 k1 x2_1 t466) else ((head_grow.f k1 x2_1 t465).bind fun bt468 => (if bt468.2 = 0 then (head_Parse.l0 k1 t466 bt468.1 x3_1) else (some (([] : List (S126)), (⟨#[]⟩ : ByteArray), bt468.2))))) else (some (([] : List (S126)), (⟨#[]⟩ : ByteArray), 9))) = some (r1, r2, r3) := H
     have A4 := Aside0.mk A40
     clear A40
     by_cases c5 : t467 = true
     ·subst c5
      have H1 : (if t465.toList = ([] : List UInt8) then (head_Parse.j1 k1 x2_1 t466) else ((head_grow.f k1 x2_1 t465).bind fun bt468 => (if bt468.2 = 0 then (head_Parse.l0 k1 t466 bt468.1 x3_1) else (some (([] : List (S126)), (⟨#[]⟩ : ByteArray), bt468.2))))) = some (r1, r2, r3) := by rw [if_pos rfl] at H; exact H
      clear H
      have H := H1
      clear H1
      by_cases c6 : t465.toList = ([] : List UInt8)
      ·rw [if_pos c6] at H
       have c6b0 : (t465.toList == ([] : List UInt8)) = true := beq_iff_eq.mpr c6
       have c6b1 : (t465.toList != ([] : List UInt8)) = false := bne_eq_false_iff_eq.mpr c6
       clear c6
       have H' := Aside0.mk H
       clear H
       go_wp2_with (first | ((with_reducible refine gate_callee (f := 45) rfl ?_); refine goesL_ (some 13) rfl rfl Tryd.func45 (by kernel_rfl) rfl #[.string x0_1, .string (⟨#[13, 10]⟩ : ByteArray)] rfl am ?_; (with_reducible refine (strings_Cut.calls (hG := by first | exact hG | exact Glob.below hG (by first | exact HB.out | (repeat (first | (with_reducible first | exact HB.out | apply below_alloc | apply pw_below_drewN | apply below_drew1) | exact HB.out))) | exact Glob.drawn hG (by repeat (first | exact Drawn0.refl _ | apply Drawn0.step))) x0_1 (⟨#[13, 10]⟩ : ByteArray) t465 t466 true _ A4.out).mono ?_); rintro e w7 ⟨rfl, hb⟩; refine ⟨_, rfl, ?_⟩; have n0_ := Aside0.mk (Kd.R_below (by (with_reducible repeat (first | apply Kd.R_alloc | apply Kd.R_drewN | apply Kd.R_drew)); exact HO_2.out) hb); have n1_ := Aside0.mk (below_step bw hb); clear HO_2; clear HB; have HO_2 := n0_; have HB := n1_; clear n0_ n1_; (try clear hb); (try clear hb2); (try clear hk); (try clear hi)))
       go_meet
       case rel => exact ⟨_, (x2_1), (t466), cl, H', ⟨by have := HK1.out; first | omega | exact Nat.le_refl _⟩, ⟨by (with_reducible repeat (first | apply Kd.R_alloc | apply Kd.R_drewN | apply Kd.R_drew)); exact HO_2.out⟩, ⟨bw⟩⟩
      ·rw [if_neg c6] at H
       have c6b0 : (t465.toList == ([] : List UInt8)) = false := beq_eq_false_iff_ne.mpr c6
       have c6b1 : (t465.toList != ([] : List UInt8)) = true := bne_iff_ne.mpr c6
       replace H := Option.bind_eq_some_iff.mp H
       obtain ⟨⟨t468, t471⟩, A80, H⟩ := H
       replace H : (if t471 = 0 then (head_Parse.l0 k1 t466 t468 x3_1) else (some (([] : List (S126)), (⟨#[]⟩ : ByteArray), t471))) = some (r1, r2, r3) := H
       have A8 := Aside0.mk A80
       clear A80
       by_cases c9 : t471 = 0
       ·rw [if_pos c9] at H
        have c9b0 : (t471 == 0) = true := beq_iff_eq.mpr c9
        have c9b1 : (t471 != 0) = false := bne_eq_false_iff_eq.mpr c9
        clear c9
        have H' := Aside0.mk H
        clear H
        go_wp2_with (first | ((with_reducible refine gate_callee (f := 45) rfl ?_); refine goesL_ (some 13) rfl rfl Tryd.func45 (by kernel_rfl) rfl #[.string x0_1, .string (⟨#[13, 10]⟩ : ByteArray)] rfl am ?_; (with_reducible refine (strings_Cut.calls (hG := by first | exact hG | exact Glob.below hG (by first | exact HB.out | (repeat (first | (with_reducible first | exact HB.out | apply below_alloc | apply pw_below_drewN | apply below_drew1) | exact HB.out))) | exact Glob.drawn hG (by repeat (first | exact Drawn0.refl _ | apply Drawn0.step))) x0_1 (⟨#[13, 10]⟩ : ByteArray) t465 t466 true _ A4.out).mono ?_); rintro e w10 ⟨rfl, hb⟩; refine ⟨_, rfl, ?_⟩; have n0_ := Aside0.mk (Kd.R_below (by (with_reducible repeat (first | apply Kd.R_alloc | apply Kd.R_drewN | apply Kd.R_drew)); exact HO_2.out) hb); have n1_ := Aside0.mk (below_step bw hb); clear HO_2; clear HB; have HO_2 := n0_; have HB := n1_; clear n0_ n1_; (try clear hb); (try clear hb2); (try clear hk); (try clear hi); obtain ⟨Ao11, co11, eo11⟩ := Kd.R_slice HO_2.out; subst eo11) | ((with_reducible refine gate_callee (f := 87) rfl ?_); refine goesL_ (some 26) rfl rfl Tryd.func87 (by kernel_rfl) rfl #[.slice Ao11 x2_1.length co11, .string t465] rfl am ?_; (with_reducible refine (head_grow.calls (hG := by first | exact hG | exact Glob.below hG (by first | exact HB.out | (repeat (first | (with_reducible first | exact HB.out | apply below_alloc | apply pw_below_drewN | apply below_drew1) | exact HB.out))) | exact Glob.drawn hG (by repeat (first | exact Drawn0.refl _ | apply Drawn0.step))) k1 (fun k_ => some k_ = (.slice Ao11 x2_1.length co11 : Value).ownBlock) (.slice Ao11 x2_1.length co11) x2_1 t465 t468 t471 w _ ?side1 ?side2 A8.out).mono ?_); (case side1 => repeat (first | (with_reducible first | exact HB.out | apply below_alloc | apply pw_below_drewN | apply below_drew1) | exact HB.out)); (case side2 => exact Kd.R_tight rfl HO_2.out); rintro e w12 ⟨v469, rfl, ho0, hb, hkp⟩; refine ⟨_, rfl, ?_⟩; have n0_ := Aside0.mk (Kd.R_mono (ok' := fun k_ => True) ho0 (fun k_ hk_ => trivial)); have n1_ := Aside0.mk (hb); clear HB; clear HO_2; have HO470 := n0_; have HB := n1_; clear n0_ n1_; (try clear hb); (try clear hkp); (try clear ho0)))
        go_roundg k1
        case measure => have := HK1.out; omega
        case rel => exact ⟨(t466), (t468), (x3_1), cl, cl, H', ⟨by have := HK1.out; omega⟩, ⟨by (with_reducible repeat (first | apply Kd.R_alloc | apply Kd.R_drewN | apply Kd.R_drew)); exact HO470.out⟩, ⟨bw⟩⟩
       ·rw [if_neg c9] at H
        have c9b0 : (t471 == 0) = false := beq_eq_false_iff_ne.mpr c9
        have c9b1 : (t471 != 0) = true := bne_iff_ne.mpr c9
        simp only [Option.some.injEq, Prod.mk.injEq] at H
        obtain ⟨rfl, rfl, rfl⟩ := H
        go_wp2_with (first | ((with_reducible refine gate_callee (f := 45) rfl ?_); refine goesL_ (some 13) rfl rfl Tryd.func45 (by kernel_rfl) rfl #[.string x0_1, .string (⟨#[13, 10]⟩ : ByteArray)] rfl am ?_; (with_reducible refine (strings_Cut.calls (hG := by first | exact hG | exact Glob.below hG (by first | exact HB.out | (repeat (first | (with_reducible first | exact HB.out | apply below_alloc | apply pw_below_drewN | apply below_drew1) | exact HB.out))) | exact Glob.drawn hG (by repeat (first | exact Drawn0.refl _ | apply Drawn0.step))) x0_1 (⟨#[13, 10]⟩ : ByteArray) t465 t466 true _ A4.out).mono ?_); rintro e w13 ⟨rfl, hb⟩; refine ⟨_, rfl, ?_⟩; have n0_ := Aside0.mk (Kd.R_below (by (with_reducible repeat (first | apply Kd.R_alloc | apply Kd.R_drewN | apply Kd.R_drew)); exact HO_2.out) hb); have n1_ := Aside0.mk (below_step bw hb); clear HO_2; clear HB; have HO_2 := n0_; have HB := n1_; clear n0_ n1_; (try clear hb); (try clear hb2); (try clear hk); (try clear hi); obtain ⟨Ao14, co14, eo14⟩ := Kd.R_slice HO_2.out; subst eo14) | ((with_reducible refine gate_callee (f := 87) rfl ?_); refine goesL_ (some 26) rfl rfl Tryd.func87 (by kernel_rfl) rfl #[.slice Ao14 x2_1.length co14, .string t465] rfl am ?_; (with_reducible refine (head_grow.calls (hG := by first | exact hG | exact Glob.below hG (by first | exact HB.out | (repeat (first | (with_reducible first | exact HB.out | apply below_alloc | apply pw_below_drewN | apply below_drew1) | exact HB.out))) | exact Glob.drawn hG (by repeat (first | exact Drawn0.refl _ | apply Drawn0.step))) k1 (fun k_ => some k_ = (.slice Ao14 x2_1.length co14 : Value).ownBlock) (.slice Ao14 x2_1.length co14) x2_1 t465 t468 t471 w _ ?side1 ?side2 A8.out).mono ?_); (case side1 => repeat (first | (with_reducible first | exact HB.out | apply below_alloc | apply pw_below_drewN | apply below_drew1) | exact HB.out)); (case side2 => exact Kd.R_tight rfl HO_2.out); rintro e w15 ⟨v469, rfl, ho0, hb, hkp⟩; refine ⟨_, rfl, ?_⟩; have n0_ := Aside0.mk (Kd.R_mono (ok' := fun k_ => True) ho0 (fun k_ hk_ => trivial)); have n1_ := Aside0.mk (hb); clear HB; clear HO_2; have HO470 := n0_; have HB := n1_; clear n0_ n1_; (try clear hb); (try clear hkp); (try clear ho0)))
        go_ret3
        exact ⟨_, by first | rfl | (simp [errW_none, errW_some] <;> rfl) | (simp [*, errW_none, errW_some] <;> rfl), by first | exact Kd.R_nil _ _ _ _ _ | exact Kd.N_nil _ _ _ _ _ | exact Kd.V_nil _ _ _ _ _ | exact Kd.Q_nil _ _ _ _ _ | exact Kd.S_nil _ _ _ _ _, bw⟩
     ·replace c5 := Bool.eq_false_iff.mpr c5
      subst c5
      have H1 : (some (([] : List (S126)), (⟨#[]⟩ : ByteArray), 9)) = some (r1, r2, r3) := by rw [if_neg (show ¬ (false = true) by decide)] at H; exact H
      clear H
      have H := H1
      clear H1
      simp only [Option.some.injEq, Prod.mk.injEq] at H
      obtain ⟨rfl, rfl, rfl⟩ := H
      go_wp2_with (first | ((with_reducible refine gate_callee (f := 45) rfl ?_); refine goesL_ (some 13) rfl rfl Tryd.func45 (by kernel_rfl) rfl #[.string x0_1, .string (⟨#[13, 10]⟩ : ByteArray)] rfl am ?_; (with_reducible refine (strings_Cut.calls (hG := by first | exact hG | exact Glob.below hG (by first | exact HB.out | (repeat (first | (with_reducible first | exact HB.out | apply below_alloc | apply pw_below_drewN | apply below_drew1) | exact HB.out))) | exact Glob.drawn hG (by repeat (first | exact Drawn0.refl _ | apply Drawn0.step))) x0_1 (⟨#[13, 10]⟩ : ByteArray) t465 t466 false _ A4.out).mono ?_); rintro e w16 ⟨rfl, hb⟩; refine ⟨_, rfl, ?_⟩; have n0_ := Aside0.mk (Kd.R_below (by (with_reducible repeat (first | apply Kd.R_alloc | apply Kd.R_drewN | apply Kd.R_drew)); exact HO_2.out) hb); have n1_ := Aside0.mk (below_step bw hb); clear HO_2; clear HB; have HO_2 := n0_; have HB := n1_; clear n0_ n1_; (try clear hb); (try clear hb2); (try clear hk); (try clear hi)))
      go_ret3
      exact ⟨_, by first | rfl | (simp [errW_none, errW_some] <;> rfl) | (simp [*, errW_none, errW_some] <;> rfl), by first | exact Kd.R_nil _ _ _ _ _ | exact Kd.N_nil _ _ _ _ _ | exact Kd.V_nil _ _ _ _ _ | exact Kd.Q_nil _ _ _ _ _ | exact Kd.S_nil _ _ _ _ _, bw⟩
 case rest =>
  clear HC2
  try clear p2
  try clear c3
  try clear c3b0
  try clear c3b1
  try clear c4
  try clear c5
  try clear c6
  try clear c6b0
  try clear c6b1
  try clear c8
  try clear c9
  try clear c9b0
  try clear c9b1
  try clear p2
  obtain ⟨kq, x2_1, x3_1, rfl, HA, HJ1, HO_2, HB⟩ := hcut
  cases kq with
  | zero => exact absurd HA.out (by simp [head_Parse.j1])
  | succ kj1 =>
   have H := HA.out
   clear HA
   simp only [head_Parse.j1] at H
   have H' := Aside0.mk H
   clear H
   obtain ⟨Ao17, co17, eo17⟩ := Kd.R_slice HO_2.out
   subst eo17
   go_wp2
   go_loopg [34] kj1 (fun kq v34 w' => ∃ (x2_2 : List (S126)) (x34_2 : Int), v34 = .int .i64 x34_2 ∧ Aside0 (head_Parse.l1 kq x2_2 x3_1 (x2_1.length : Int) x34_2 = some (r1, r2, r3)) ∧ Aside0 (kq ≤ kj1) ∧ Aside0 (Kd.R k126 126 w' w.heap.size (fun _ => True) (.slice Ao17 x2_1.length co17) x2_2) ∧ Aside0 (Below w.heap.size w w'))
   case atStart => exact ⟨(x2_1), (0), cl, H', ⟨Nat.le_refl _⟩, ⟨by (with_reducible repeat (first | apply Kd.R_alloc | apply Kd.R_drewN | apply Kd.R_drew)); exact HO_2.out⟩, ⟨bw⟩⟩
   case round =>
    clear H'
    try clear p2
    try clear c3
    try clear c3b0
    try clear c3b1
    try clear c4
    try clear c5
    try clear c6
    try clear c6b0
    try clear c6b1
    try clear c8
    try clear c9
    try clear c9b0
    try clear c9b1
    try clear p2
    obtain ⟨x2_2, x34_2, rfl, HA, HK2, HO_2, HB⟩ := hrel
    have hl2_2 := (Kd.R_reads' HO_2.out).1
    rw [hl2_2] at HO_2
    (try simp only [hl2_2])
    cases gk with
    | zero => exact absurd HA.out (by simp [head_Parse.l1])
    | succ k2 =>
     have H := HA.out
     clear HA
     simp only [head_Parse.l1] at H
     by_cases c18 : x34_2 < (x2_1.length : Int)
     ·rw [if_pos c18] at H
      have c18b0 : decide (x34_2 < (x2_1.length : Int)) = true := decide_eq_true c18
      clear c18
      by_cases c19 : 0 ≤ x34_2
      ·rw [if_pos c19] at H
       have c19b0 : decide (0 ≤ x34_2) = true := decide_eq_true c19
       clear c19
       by_cases c20 : x34_2 < (x2_2.length : Int)
       ·rw [if_pos c20] at H
        have c20b0 : decide (x34_2 < (x2_2.length : Int)) = true := decide_eq_true c20
        clear c20
        replace H := Option.bind_eq_some_iff.mp H
        obtain ⟨t473, A210, H⟩ := H
        replace H : (head_Parse.l1 k2 (x2_2.set (x34_2 : Int).toNat (⟨(rd_T126 x2_2 x34_2).f0, t473⟩ : S126)) x3_1 (x2_1.length : Int) (wrap64 (x34_2 + 1))) = some (r1, r2, r3) := H
        have A21 := Aside0.mk A210
        clear A210
        obtain ⟨y474, hy474⟩ : ∃ y_ : List (S126), y_ = (x2_2.set (x34_2 : Int).toNat (⟨(rd_T126 x2_2 x34_2).f0, t473⟩ : S126)) := ⟨_, rfl⟩
        replace H : (head_Parse.l1 k2 y474 x3_1 (x2_1.length : Int) (wrap64 (x34_2 + 1))) = some (r1, r2, r3) := by first | (rw [hy474]; with_reducible exact H) | (have H2_ := (Option.bind_some _ _).symm.trans H; rw [hy474]; with_reducible exact H2_) | (have H2_ := (Option.bind_some _ _).symm.trans H; with_reducible exact H2_) | with_reducible exact H | (rw [hy474]; exact H) | exact H
        have Ny474 := Aside0.mk hy474
        clear hy474
        have H' := Aside0.mk H
        clear H
        have p472 : 0 ≤ (x34_2 : Int) := od
        have q472 : x34_2 < (x2_2.length : Int) := od
        obtain ⟨ad472, e472, hx472_0, hx472_1⟩ := at_T126 (Kd.R_reads' HO_2.out).2.2 x34_2 p472 q472
        cases e472
        replace p472 := eq_true p472
        replace q472 := eq_true q472
        go_wp2_with (first | ((with_reducible refine gate_callee (f := 88) rfl ?_); refine goesL_ (some 44) rfl rfl Tryd.func88 (by kernel_rfl) rfl #[.string ((rd_T126 x2_2 x34_2).f1)] rfl am ?_; (with_reducible refine (head_trim.calls ((rd_T126 x2_2 x34_2).f1) t473 _ A21.out).mono ?_); rintro e w23 ⟨rfl, hb⟩; refine ⟨_, rfl, ?_⟩; have n0_ := Aside0.mk (Kd.R_below (by (with_reducible repeat (first | apply Kd.R_alloc | apply Kd.R_drewN | apply Kd.R_drew)); exact HO_2.out) hb); have n1_ := Aside0.mk (below_step bw hb); clear HO_2; clear HB; have HO_2 := n0_; have HB := n1_; clear n0_ n1_; (try clear hb); (try clear hb2); (try clear hk); (try clear hi); have p22 : 0 ≤ (x34_2 : Int) := od; have q22 : (x34_2 : Int) < ((x2_2.length : Int) : Int) := od; obtain ⟨go22, co22, eo22, gb22, gl22, cl22, HG22⟩ := Kd.R_form HO_2.out (by omega); (first | cases eo22 | (injection eo22 with ea_ en_ ec_; (first | subst ea_ | (injection ea_ with ea_; subst ea_)); subst ec_; clear en_)); have GB22 := Aside0.mk gb22; have GG22 := Aside0.mk HG22; clear gb22 gl22 HG22; (first | simp only [add_plain] at hx472_0 | skip); (first | simp only [add_plain] at hx472_1 | skip); obtain ⟨ce22, hcl22, hM22, hcc22, hfr22⟩ := Kd.R_elem HO_2.out z126 (x34_2 : Int) p22 q22; obtain rfl := k126_openM hM22; have hx22_0 : w23.cell? ⟨go22, (x34_2 : Int).toNat * 2, none⟩ = some (.string ((rd_T126 x2_2 x34_2).f0)) := hcc22 0 _ rfl; have hx22_1 : w23.cell? ⟨go22, (x34_2 : Int).toNat * 2 + 1, none⟩ = some (.string ((rd_T126 x2_2 x34_2).f1)) := hcc22 1 _ rfl; have hf22_0 : w23.frozen? ⟨go22, (x34_2 : Int).toNat * 2, none⟩ = false := hfr22 0; have hf22_1 : w23.frozen? ⟨go22, (x34_2 : Int).toNat * 2 + 1, none⟩ = false := hfr22 1; clear hcl22 hcc22 hfr22 hM22; replace p22 := eq_true p22; replace q22 := eq_true q22; have HX24 := Aside0.mk (show Kd.R k126 126 w23 w.heap.size (fun _ => True) (.slice (some ⟨go22, 0, none⟩) x2_2.length co17) x2_2 from (by (with_reducible repeat (first | apply Kd.R_alloc | apply Kd.R_drewN | apply Kd.R_drew)); exact HO_2.out)); obtain ⟨ce24, hcl24, hM24, hcc24, hfr24⟩ := Kd.R_elem HX24.out z126 (x34_2 : Int) (od) (by have h_ : (x34_2 : Int) < ((x2_2.length : Int) : Int) := od; first | exact h_ | (have e_ := (Kd.R_reads' HO_2.out).1; omega) | simpa using h_); obtain rfl := k126_openM hM24; have HP24 := Kd.R_seg HX24.out (x34_2 : Int) (od) (by have h_ : (x34_2 : Int) < ((x2_2.length : Int) : Int) := od; first | exact h_ | (have e_ := (Kd.R_reads' HO_2.out).1; omega) | simpa using h_) (seg := [.string t473]) (j := 1) hcl24 hcc24 (show 2 ≤ 2 from by decide) (x' := (⟨(rd_T126 x2_2 x34_2).f0, t473⟩ : S126)) (k126_mkM _ _ _ (⟨(rd_T126 x2_2 x34_2).f0, t473⟩ : S126) ) (fun _ hk => hk); have hx24_1 := hcc24 1 _ rfl; (try simp only [show (k126).sz = 2 from rfl, Nat.mul_one, Nat.add_zero] at hx24_1); have hf24_1 := hfr24 1; (try simp only [show (k126).sz = 2 from rfl, Nat.mul_one, Nat.add_zero] at hf24_1); clear hcl24 hcc24 hfr24 hM24) | ((with_reducible refine gate_store (t := 9) (p := 46) rfl ?_); refine store_event (t := 9) (p := 46) (v := ?vo_w25) (w1 := (w23.setCell ⟨go22, (x34_2 : Int).toNat * 2 + 1, none⟩ (.string t473))) ?hg ?ho ?hn ?hr ?_; (case ho => rfl); (case hg => rfl); (case hn => rfl); (case hr => first | (go_simp; done) | (go_simp; rfl)); intro w25 hw; have hg : w23.grownBy w25 (some go22) := (by rw [hw]; exact HP24.2); have hp_ : Kd.R k126 126 w25 w.heap.size (fun _ => True) (.slice (some ⟨go22, 0, none⟩) x2_2.length co17) y474 := (by rw [hw, Ny474.out]; exact HP24.1); clear HP24; have n0_ := Aside0.mk (hp_); have n1_ := Aside0.mk ((by rw [hw]; exact below_set (HB.out) GB22.out : Below w.heap.size w w25)); clear HO_2; clear HB; have HO_2 := n0_; have HB := n1_; clear n0_ n1_; clear hg hw hp_))
        (try simp only [← hl2_2])
        go_roundg k2
        case measure => have := HJ1.out; have := HK2.out; omega
        case rel => exact ⟨(y474), (wrap64 (x34_2 + 1)), cl, H', ⟨by have := HJ1.out; have := HK2.out; omega⟩, ⟨by (try simp only [hl2_2]); (with_reducible repeat (first | apply Kd.R_alloc | apply Kd.R_drewN | apply Kd.R_drew)); exact HO_2.out⟩, ⟨bw⟩⟩
       ·rw [if_neg c20] at H
        exact absurd H (by simp)
      ·rw [if_neg c19] at H
       exact absurd H (by simp)
     ·rw [if_neg c18] at H
      have c18b0 : decide (x34_2 < (x2_1.length : Int)) = false := decide_eq_false c18
      (try simp only [hl2_2] at c18b0)
      clear c18
      simp only [Option.some.injEq, Prod.mk.injEq] at H
      obtain ⟨rfl, rfl, rfl⟩ := H
      go_wp2
      go_ret3
      exact ⟨_, by first | rfl | (simp [errW_none, errW_some] <;> rfl) | (simp [*, errW_none, errW_some] <;> rfl), by (with_reducible repeat (first | apply Kd.R_alloc | apply Kd.R_drewN | apply Kd.R_drew)); exact HO_2.out, bw⟩

end Go.Proofs.YtbjbpgmjijeppaaDoor.Fn
namespace Go.Proofs.YtbjbpgmjijeppaaDoor.Fn
open Go.RowKit Go.Proofs.YtbjbpgmjijeppaaDoorW.PrintWords Go.Proofs.YtbjbpgmjijeppaaDoorW.PrintLast Go.Proofs.YtbjbpgmjijeppaaDoorW.PrintMore
attribute [local go_sem] max2_int min2_int max_two min_two max_three min_three max_four min_four
set_option linter.unusedVariables false
set_option linter.unusedSimpArgs false

/-! ### msg_Parse: function 42 -/
def msg_Parse.f (k : Nat) (a0 : ByteArray) : Option ((List (S126)) × ByteArray × Int) := if (a0.size : Int) > 65536 then (some (([] : List (S126)), (⟨#[]⟩ : ByteArray), 2)) else ((head_Parse.f k a0).bind fun bt476 => (if bt476.2.2 = 0 then (some (bt476.1, bt476.2.1, 0)) else (some (([] : List (S126)), (⟨#[]⟩ : ByteArray), bt476.2.2))))
theorem msg_Parse.mono : ∀ a0 k, LeO (msg_Parse.f k a0) (msg_Parse.f (k + 1) a0) := by
 intro a0 k
 unfold msg_Parse.f
 repeat' first
   | (with_reducible exact head_Parse.mono _ _)
   | (with_reducible exact LeO.refl _)
   | (with_reducible exact LeO.none _)
   | (with_reducible refine LeO.ite ?_ ?_)
   | (with_reducible refine LeO.bind ?_ (fun _ => ?_))
   | exact head_Parse.mono _ _
   | exact LeO.none _
   | refine LeO.ite ?_ ?_
   | refine LeO.bind ?_ (fun _ => ?_)
set_option maxHeartbeats 8000000 in
set_option maxRecDepth 100000 in
theorem msg_Parse.calls (k : Nat) (a0 : ByteArray) (r1 : List (S126)) (r2 : ByteArray) (r3 : Int) (w : World) (hG : Glob w) (h : msg_Parse.f k a0 = some (r1, r2, r3)) :
  Calls Tryd.prog 42 #[.string a0] w fun e w' => ∃ v0_ : Value, e = .returned (.tuple #[.agg #[v0_, .string r2], .int .i64 r3]) ∧ Kd.R k126 126 w' w.heap.size (fun _ => True) v0_ r1 ∧ Below w.heap.size w w' := by
 have hu53 := Tryd.underlying53
 have HB := Aside0.mk (Below.refl w.heap.size w)
 have H : (if (a0.size : Int) > 65536 then (some (([] : List (S126)), (⟨#[]⟩ : ByteArray), 2)) else ((head_Parse.f k a0).bind fun bt476 => (if bt476.2.2 = 0 then (some (bt476.1, bt476.2.1, 0)) else (some (([] : List (S126)), (⟨#[]⟩ : ByteArray), bt476.2.2))))) = some (r1, r2, r3) := h
 clear h
 by_cases c2 : (a0.size : Int) > 65536
 ·rw [if_pos c2] at H
  have c2b0 : decide (65536 < (a0.size : Int)) = true := decide_eq_true c2
  have c2b1 : decide (65536 < a0.size) = true := decide_eq_true (by omega)
  clear c2
  simp only [Option.some.injEq, Prod.mk.injEq] at H
  obtain ⟨rfl, rfl, rfl⟩ := H
  go_enter Tryd.func42, Tryd.ntmps42
  go_wp2_with (first | ((with_reducible refine gate_dst (N := 2) rfl ?_); refine box_event ?hg (N := 2) ?hd (cs := #[.slice none 0 0, .string (⟨#[]⟩ : ByteArray)]) (t := 53) ?hr ?_; (case hd => rfl); (case hg => rfl); (case hr => first | (go_simp; done) | (go_simp; rfl)); intro gb475 hg w3 hbox hb; have n0_ := Aside0.mk (below_step bw hb); have n1_ := Aside0.mk (hbox); have n2_ := Aside0.mk ((by rw [hg]; exact (below_size bw) : w.heap.size ≤ gb475)); have n3_ := Aside0.mk ((by rw [hg]; exact (below_size bw) : w.heap.size ≤ gb475)); clear HB; have HB := n0_; have BK475 := n1_; have GW475 := n2_; have GE475 := n3_; clear n0_ n1_ n2_ n3_; clear hb hbox hg; have hcz4_0 : w3.cell? ⟨gb475, 0, none⟩ = some (.slice none 0 0) := (blk_cell BK475.out 0).trans rfl; have hcz4_1 : w3.cell? ⟨gb475, 1, none⟩ = some (.string (⟨#[]⟩ : ByteArray)) := (blk_cell BK475.out 1).trans rfl; have hfz4_0 := blk_frozen BK475.out 0; have hfz4_1 := blk_frozen BK475.out 1))
  refine bodyPost_ret (results_ct rfl _ _ gb475 53 #[.slice none 0 0, .string (⟨#[]⟩ : ByteArray)] (0, 0) _ rfl (by (with_reducible repeat (first | refine blk_drewN ?_ _ | refine blk_drew ?_ | refine blk_alloc ?_ _)); refine blk_put (cs := #[.slice none 0 0, .string (⟨#[]⟩ : ByteArray)]) ?_ 1 _ rfl; (with_reducible repeat (first | refine blk_drewN ?_ _ | refine blk_drew ?_ | refine blk_alloc ?_ _)); refine blk_put (cs := #[.slice none 0 0, .string (⟨#[]⟩ : ByteArray)]) ?_ 0 _ rfl; (with_reducible repeat (first | refine blk_drewN ?_ _ | refine blk_drew ?_ | refine blk_alloc ?_ _)); exact BK475.out) Tryd.underlying53 rfl (by kernel_rfl)) rfl ?_
  exact ⟨_, by first | rfl | (simp [errW_none, errW_some] <;> rfl) | (simp [*, errW_none, errW_some] <;> rfl), by first | exact Kd.R_nil _ _ _ _ _ | exact Kd.N_nil _ _ _ _ _ | exact Kd.V_nil _ _ _ _ _ | exact Kd.Q_nil _ _ _ _ _ | exact Kd.S_nil _ _ _ _ _, bwS⟩
 ·rw [if_neg c2] at H
  have c2b0 : decide (65536 < (a0.size : Int)) = false := decide_eq_false c2
  have c2b1 : decide (65536 < a0.size) = false := decide_eq_false (by omega)
  clear c2
  replace H := Option.bind_eq_some_iff.mp H
  obtain ⟨⟨t476, t477, t478⟩, A50, H⟩ := H
  replace H : (if t478 = 0 then (some (t476, t477, 0)) else (some (([] : List (S126)), (⟨#[]⟩ : ByteArray), t478))) = some (r1, r2, r3) := H
  have A5 := Aside0.mk A50
  clear A50
  by_cases c6 : t478 = 0
  ·rw [if_pos c6] at H
   have c6b0 : (t478 == 0) = true := beq_iff_eq.mpr c6
   have c6b1 : (t478 != 0) = false := bne_eq_false_iff_eq.mpr c6
   clear c6
   simp only [Option.some.injEq, Prod.mk.injEq] at H
   obtain ⟨rfl, rfl, rfl⟩ := H
   go_enter Tryd.func42, Tryd.ntmps42
   go_wp2_with (first | ((with_reducible refine gate_dst (N := 2) rfl ?_); refine box_event ?hg (N := 2) ?hd (cs := #[.slice none 0 0, .string (⟨#[]⟩ : ByteArray)]) (t := 53) ?hr ?_; (case hd => rfl); (case hg => rfl); (case hr => first | (go_simp; done) | (go_simp; rfl)); intro gb475 hg w7 hbox hb; have n0_ := Aside0.mk (below_step bw hb); have n1_ := Aside0.mk (hbox); have n2_ := Aside0.mk ((by rw [hg]; exact (below_size bw) : w.heap.size ≤ gb475)); have n3_ := Aside0.mk ((by rw [hg]; exact (below_size bw) : w.heap.size ≤ gb475)); clear HB; have HB := n0_; have BK475 := n1_; have GW475 := n2_; have GE475 := n3_; clear n0_ n1_ n2_ n3_; clear hb hbox hg) | ((with_reducible refine gate_callee (f := 68) rfl ?_); refine goesL_ (some 13) rfl rfl Tryd.func68 (by kernel_rfl) rfl #[.string a0] rfl am ?_; (with_reducible refine (head_Parse.calls (hG := by first | exact hG | exact Glob.below hG (by first | exact HB.out | (repeat (first | (with_reducible first | exact HB.out | apply below_alloc | apply pw_below_drewN | apply below_drew1 | refine below_set ?_ GE475.out) | exact HB.out))) | exact Glob.drawn hG (by repeat (first | exact Drawn0.refl _ | apply Drawn0.step))) k a0 t476 t477 t478 _ A5.out).mono ?_); rintro e w8 ⟨v479, rfl, ho0, hb⟩; refine ⟨_, rfl, ?_⟩; have n0_ := Aside0.mk (Kd.R_lower ho0 (below_size bwS)); have n1_ := Aside0.mk (blk_below (g := gb475) (o := .cells #[.slice none 0 0, .string (⟨#[]⟩ : ByteArray)] 53 (0, 0)) bk hb); have n2_ := Aside0.mk (below_step bwS hb); clear BK475; clear HB; have HO480 := n0_; have BK475 := n1_; have HB := n2_; clear n0_ n1_ n2_; (try clear hb); (try clear hb2); (try clear hk); (try clear hi); (try clear ho0); obtain ⟨Ao9, co9, eo9⟩ := Kd.R_slice HO480.out; subst eo9; have hcz10_0 : w8.cell? ⟨gb475, 0, none⟩ = some (.slice none 0 0) := (blk_cell BK475.out 0).trans rfl; have hcz10_1 : w8.cell? ⟨gb475, 1, none⟩ = some (.string (⟨#[]⟩ : ByteArray)) := (blk_cell BK475.out 1).trans rfl; have hfz10_0 := blk_frozen BK475.out 0; have hfz10_1 := blk_frozen BK475.out 1))
   refine bodyPost_ret (results_ct rfl _ _ gb475 53 #[.slice Ao9 t476.length co9, .string t477] (0, 0) _ rfl (by (with_reducible repeat (first | refine blk_drewN ?_ _ | refine blk_drew ?_ | refine blk_alloc ?_ _)); refine blk_put (cs := #[.slice Ao9 t476.length co9, .string (⟨#[]⟩ : ByteArray)]) ?_ 1 _ rfl; (with_reducible repeat (first | refine blk_drewN ?_ _ | refine blk_drew ?_ | refine blk_alloc ?_ _)); refine blk_put (cs := #[.slice none 0 0, .string (⟨#[]⟩ : ByteArray)]) ?_ 0 _ rfl; (with_reducible repeat (first | refine blk_drewN ?_ _ | refine blk_drew ?_ | refine blk_alloc ?_ _)); exact BK475.out) Tryd.underlying53 rfl (by kernel_rfl)) rfl ?_
   exact ⟨_, by first | rfl | (simp [errW_none, errW_some] <;> rfl) | (simp [*, errW_none, errW_some] <;> rfl), by (with_reducible repeat (first | apply Kd.R_alloc | apply Kd.R_drewN | apply Kd.R_drew)); exact Kd.R_mono (Kd.R_far (p := ⟨gb475, 1, none⟩) (Kd.R_far (p := ⟨gb475, 0, none⟩) (Kd.R_types HO480.out BK475.out (by decide)) (fun _ hk => hk.2) (.slice Ao9 t476.length co9)) (fun _ hk => hk.2) (.string t477)) (fun _ hk => trivial), bwS⟩
  ·rw [if_neg c6] at H
   have c6b0 : (t478 == 0) = false := beq_eq_false_iff_ne.mpr c6
   have c6b1 : (t478 != 0) = true := bne_iff_ne.mpr c6
   simp only [Option.some.injEq, Prod.mk.injEq] at H
   obtain ⟨rfl, rfl, rfl⟩ := H
   go_enter Tryd.func42, Tryd.ntmps42
   go_wp2_with (first | ((with_reducible refine gate_dst (N := 2) rfl ?_); refine box_event ?hg (N := 2) ?hd (cs := #[.slice none 0 0, .string (⟨#[]⟩ : ByteArray)]) (t := 53) ?hr ?_; (case hd => rfl); (case hg => rfl); (case hr => first | (go_simp; done) | (go_simp; rfl)); intro gb475 hg w11 hbox hb; have n0_ := Aside0.mk (below_step bw hb); have n1_ := Aside0.mk (hbox); have n2_ := Aside0.mk ((by rw [hg]; exact (below_size bw) : w.heap.size ≤ gb475)); have n3_ := Aside0.mk ((by rw [hg]; exact (below_size bw) : w.heap.size ≤ gb475)); clear HB; have HB := n0_; have BK475 := n1_; have GW475 := n2_; have GE475 := n3_; clear n0_ n1_ n2_ n3_; clear hb hbox hg) | ((with_reducible refine gate_callee (f := 68) rfl ?_); refine goesL_ (some 13) rfl rfl Tryd.func68 (by kernel_rfl) rfl #[.string a0] rfl am ?_; (with_reducible refine (head_Parse.calls (hG := by first | exact hG | exact Glob.below hG (by first | exact HB.out | (repeat (first | (with_reducible first | exact HB.out | apply below_alloc | apply pw_below_drewN | apply below_drew1 | refine below_set ?_ GE475.out) | exact HB.out))) | exact Glob.drawn hG (by repeat (first | exact Drawn0.refl _ | apply Drawn0.step))) k a0 t476 t477 t478 _ A5.out).mono ?_); rintro e w12 ⟨v479, rfl, ho0, hb⟩; refine ⟨_, rfl, ?_⟩; have n0_ := Aside0.mk (Kd.R_lower ho0 (below_size bwS)); have n1_ := Aside0.mk (blk_below (g := gb475) (o := .cells #[.slice none 0 0, .string (⟨#[]⟩ : ByteArray)] 53 (0, 0)) bk hb); have n2_ := Aside0.mk (below_step bwS hb); clear BK475; clear HB; have HO480 := n0_; have BK475 := n1_; have HB := n2_; clear n0_ n1_ n2_; (try clear hb); (try clear hb2); (try clear hk); (try clear hi); (try clear ho0); have hcz13_0 : w12.cell? ⟨gb475, 0, none⟩ = some (.slice none 0 0) := (blk_cell BK475.out 0).trans rfl; have hcz13_1 : w12.cell? ⟨gb475, 1, none⟩ = some (.string (⟨#[]⟩ : ByteArray)) := (blk_cell BK475.out 1).trans rfl; have hfz13_0 := blk_frozen BK475.out 0; have hfz13_1 := blk_frozen BK475.out 1))
   refine bodyPost_ret (results_ct rfl _ _ gb475 53 #[.slice none 0 0, .string (⟨#[]⟩ : ByteArray)] (0, 0) _ rfl (by (with_reducible repeat (first | refine blk_drewN ?_ _ | refine blk_drew ?_ | refine blk_alloc ?_ _)); refine blk_put (cs := #[.slice none 0 0, .string (⟨#[]⟩ : ByteArray)]) ?_ 1 _ rfl; (with_reducible repeat (first | refine blk_drewN ?_ _ | refine blk_drew ?_ | refine blk_alloc ?_ _)); refine blk_put (cs := #[.slice none 0 0, .string (⟨#[]⟩ : ByteArray)]) ?_ 0 _ rfl; (with_reducible repeat (first | refine blk_drewN ?_ _ | refine blk_drew ?_ | refine blk_alloc ?_ _)); exact BK475.out) Tryd.underlying53 rfl (by kernel_rfl)) rfl ?_
   exact ⟨_, by first | rfl | (simp [errW_none, errW_some] <;> rfl) | (simp [*, errW_none, errW_some] <;> rfl), by first | exact Kd.R_nil _ _ _ _ _ | exact Kd.N_nil _ _ _ _ _ | exact Kd.V_nil _ _ _ _ _ | exact Kd.Q_nil _ _ _ _ _ | exact Kd.S_nil _ _ _ _ _, bwS⟩

end Go.Proofs.YtbjbpgmjijeppaaDoor.Fn
namespace Go.Proofs.YtbjbpgmjijeppaaDoor.Fn
open Go.RowKit Go.Proofs.YtbjbpgmjijeppaaDoorW.PrintWords Go.Proofs.YtbjbpgmjijeppaaDoorW.PrintLast Go.Proofs.YtbjbpgmjijeppaaDoorW.PrintMore
attribute [local go_sem] max2_int min2_int max_two min_two max_three min_three max_four min_four
set_option linter.unusedVariables false
set_option linter.unusedSimpArgs false

/-! ### bulletinlaw16_works: function 22 -/
def bulletinlaw16_works.f (k : Nat)  : Option (Bool) := (msg_Parse.f k (⟨#[70, 114, 111, 109, 58, 32, 65, 110, 110, 32, 60, 97, 64, 98, 62, 13, 10, 13, 10, 104, 105, 13, 10]⟩ : ByteArray)).bind fun bt503 => ((msg_Message_From.f k bt503.1 bt503.2.1).bind fun bt509 => ((msg_Message_Lines.f k bt503.1 bt503.2.1).bind fun t514 => (if bt503.2.2 = 0 then (if bt509.2.2.2 = 0 then (if bt509.1.toList = ([65, 110, 110] : List UInt8) then (if bt509.2.1.toList = ([97] : List UInt8) then (if (t514.length : Int) = 1 then (if 0 < (t514.length : Int) then (if (rdOf ByteArray.empty t514 0).toList = ([104, 105] : List UInt8) then ((msg_Message_Text.f bt503.1 bt503.2.1).bind fun t518 => (some (t518.toList == ([70, 114, 111, 109, 58, 32, 65, 110, 110, 32, 60, 97, 64, 98, 62, 13, 10, 13, 10, 104, 105, 13, 10] : List UInt8)))) else (some false)) else (none)) else (some false)) else (some false)) else (some false)) else (some false)) else (some false))))
theorem bulletinlaw16_works.mono : ∀ k, LeO (bulletinlaw16_works.f k ) (bulletinlaw16_works.f (k + 1) ) := by
 intro  k
 unfold bulletinlaw16_works.f
 repeat' first
   | (with_reducible exact msg_Message_From.mono _ _ _)
   | (with_reducible exact msg_Message_Lines.mono _ _ _)
   | (with_reducible exact msg_Parse.mono _ _)
   | (with_reducible exact LeO.refl _)
   | (with_reducible exact LeO.none _)
   | (with_reducible refine LeO.ite ?_ ?_)
   | (with_reducible refine LeO.bind ?_ (fun _ => ?_))
   | exact msg_Message_From.mono _ _ _
   | exact msg_Message_Lines.mono _ _ _
   | exact msg_Parse.mono _ _
   | exact LeO.none _
   | refine LeO.ite ?_ ?_
   | refine LeO.bind ?_ (fun _ => ?_)
set_option maxHeartbeats 8000000 in
set_option maxRecDepth 100000 in
theorem bulletinlaw16_works.calls (k : Nat)  (r : Bool) (w : World) (hG : Glob w) (h : bulletinlaw16_works.f k  = some r) :
  Calls Tryd.prog 22 #[] w fun e w' => e = .returned (.bool r) ∧ Below w.heap.size w w' := by
 have hu53 := Tryd.underlying53
 have hu31 := Tryd.underlying31
 have HB := Aside0.mk (Below.refl w.heap.size w)
 have H : ((msg_Parse.f k (⟨#[70, 114, 111, 109, 58, 32, 65, 110, 110, 32, 60, 97, 64, 98, 62, 13, 10, 13, 10, 104, 105, 13, 10]⟩ : ByteArray)).bind fun bt503 => ((msg_Message_From.f k bt503.1 bt503.2.1).bind fun bt509 => ((msg_Message_Lines.f k bt503.1 bt503.2.1).bind fun t514 => (if bt503.2.2 = 0 then (if bt509.2.2.2 = 0 then (if bt509.1.toList = ([65, 110, 110] : List UInt8) then (if bt509.2.1.toList = ([97] : List UInt8) then (if (t514.length : Int) = 1 then (if 0 < (t514.length : Int) then (if (rdOf ByteArray.empty t514 0).toList = ([104, 105] : List UInt8) then ((msg_Message_Text.f bt503.1 bt503.2.1).bind fun t518 => (some (t518.toList == ([70, 114, 111, 109, 58, 32, 65, 110, 110, 32, 60, 97, 64, 98, 62, 13, 10, 13, 10, 104, 105, 13, 10] : List UInt8)))) else (some false)) else (none)) else (some false)) else (some false)) else (some false)) else (some false)) else (some false))))) = some r := h
 clear h
 replace H := Option.bind_eq_some_iff.mp H
 obtain ⟨⟨t503, t506, t507⟩, A10, H⟩ := H
 replace H : ((msg_Message_From.f k t503 t506).bind fun bt509 => ((msg_Message_Lines.f k t503 t506).bind fun t514 => (if t507 = 0 then (if bt509.2.2.2 = 0 then (if bt509.1.toList = ([65, 110, 110] : List UInt8) then (if bt509.2.1.toList = ([97] : List UInt8) then (if (t514.length : Int) = 1 then (if 0 < (t514.length : Int) then (if (rdOf ByteArray.empty t514 0).toList = ([104, 105] : List UInt8) then ((msg_Message_Text.f t503 t506).bind fun t518 => (some (t518.toList == ([70, 114, 111, 109, 58, 32, 65, 110, 110, 32, 60, 97, 64, 98, 62, 13, 10, 13, 10, 104, 105, 13, 10] : List UInt8)))) else (some false)) else (none)) else (some false)) else (some false)) else (some false)) else (some false)) else (some false)))) = some r := H
 have A1 := Aside0.mk A10
 clear A10
 replace H := Option.bind_eq_some_iff.mp H
 obtain ⟨⟨t509, t510, t511, t512⟩, A20, H⟩ := H
 replace H : ((msg_Message_Lines.f k t503 t506).bind fun t514 => (if t507 = 0 then (if t512 = 0 then (if t509.toList = ([65, 110, 110] : List UInt8) then (if t510.toList = ([97] : List UInt8) then (if (t514.length : Int) = 1 then (if 0 < (t514.length : Int) then (if (rdOf ByteArray.empty t514 0).toList = ([104, 105] : List UInt8) then ((msg_Message_Text.f t503 t506).bind fun t518 => (some (t518.toList == ([70, 114, 111, 109, 58, 32, 65, 110, 110, 32, 60, 97, 64, 98, 62, 13, 10, 13, 10, 104, 105, 13, 10] : List UInt8)))) else (some false)) else (none)) else (some false)) else (some false)) else (some false)) else (some false)) else (some false))) = some r := H
 have A2 := Aside0.mk A20
 clear A20
 replace H := Option.bind_eq_some_iff.mp H
 obtain ⟨t514, A30, H⟩ := H
 replace H : (if t507 = 0 then (if t512 = 0 then (if t509.toList = ([65, 110, 110] : List UInt8) then (if t510.toList = ([97] : List UInt8) then (if (t514.length : Int) = 1 then (if 0 < (t514.length : Int) then (if (rdOf ByteArray.empty t514 0).toList = ([104, 105] : List UInt8) then ((msg_Message_Text.f t503 t506).bind fun t518 => (some (t518.toList == ([70, 114, 111, 109, 58, 32, 65, 110, 110, 32, 60, 97, 64, 98, 62, 13, 10, 13, 10, 104, 105, 13, 10] : List UInt8)))) else (some false)) else (none)) else (some false)) else (some false)) else (some false)) else (some false)) else (some false)) = some r := H
 have A3 := Aside0.mk A30
 clear A30
 by_cases c4 : t507 = 0
 ·rw [if_pos c4] at H
  have c4b0 : (t507 == 0) = true := beq_iff_eq.mpr c4
  have c4b1 : (t507 != 0) = false := bne_eq_false_iff_eq.mpr c4
  clear c4
  by_cases c5 : t512 = 0
  ·rw [if_pos c5] at H
   have c5b0 : (t512 == 0) = true := beq_iff_eq.mpr c5
   have c5b1 : (t512 != 0) = false := bne_eq_false_iff_eq.mpr c5
   clear c5
   by_cases c6 : t509.toList = ([65, 110, 110] : List UInt8)
   ·rw [if_pos c6] at H
    have c6b0 : (t509.toList == ([65, 110, 110] : List UInt8)) = true := beq_iff_eq.mpr c6
    have c6b1 : (t509.toList != ([65, 110, 110] : List UInt8)) = false := bne_eq_false_iff_eq.mpr c6
    clear c6
    by_cases c7 : t510.toList = ([97] : List UInt8)
    ·rw [if_pos c7] at H
     have c7b0 : (t510.toList == ([97] : List UInt8)) = true := beq_iff_eq.mpr c7
     have c7b1 : (t510.toList != ([97] : List UInt8)) = false := bne_eq_false_iff_eq.mpr c7
     clear c7
     by_cases c8 : (t514.length : Int) = 1
     ·rw [if_pos c8] at H
      have c8b0 : ((t514.length : Int) == 1) = true := beq_iff_eq.mpr c8
      have c8b1 : ((t514.length : Int) != 1) = false := bne_eq_false_iff_eq.mpr c8
      clear c8
      by_cases c9 : 0 < (t514.length : Int)
      ·rw [if_pos c9] at H
       have c9b0 : decide (0 < (t514.length : Int)) = true := decide_eq_true c9
       have c9b1 : decide (0 < t514.length) = true := decide_eq_true (by omega)
       clear c9
       by_cases c10 : (rdOf ByteArray.empty t514 0).toList = ([104, 105] : List UInt8)
       ·rw [if_pos c10] at H
        have c10b0 : ((rdOf ByteArray.empty t514 0).toList == ([104, 105] : List UInt8)) = true := beq_iff_eq.mpr c10
        have c10b1 : ((rdOf ByteArray.empty t514 0).toList != ([104, 105] : List UInt8)) = false := bne_eq_false_iff_eq.mpr c10
        clear c10
        replace H := Option.bind_eq_some_iff.mp H
        obtain ⟨t518, A110, H⟩ := H
        replace H : (some (t518.toList == ([70, 114, 111, 109, 58, 32, 65, 110, 110, 32, 60, 97, 64, 98, 62, 13, 10, 13, 10, 104, 105, 13, 10] : List UInt8))) = some r := H
        have A11 := Aside0.mk A110
        clear A110
        obtain rfl := Option.some.inj H
        go_enter Tryd.func22, Tryd.ntmps22
        go_wp2_with (first | ((with_reducible refine gate_callee (f := 42) rfl ?_); refine goesL_ (some 7) rfl rfl Tryd.func42 (by kernel_rfl) rfl #[.string (⟨#[70, 114, 111, 109, 58, 32, 65, 110, 110, 32, 60, 97, 64, 98, 62, 13, 10, 13, 10, 104, 105, 13, 10]⟩ : ByteArray)] rfl am ?_; (with_reducible refine (msg_Parse.calls (hG := by first | exact hG | exact Glob.below hG (by first | exact HB.out | (repeat (first | (with_reducible first | exact HB.out | apply below_alloc | apply pw_below_drewN | apply below_drew1 | refine below_set ?_ GE508.out | refine below_set ?_ GE513.out) | exact HB.out))) | exact Glob.drawn hG (by repeat (first | exact Drawn0.refl _ | apply Drawn0.step))) k (⟨#[70, 114, 111, 109, 58, 32, 65, 110, 110, 32, 60, 97, 64, 98, 62, 13, 10, 13, 10, 104, 105, 13, 10]⟩ : ByteArray) t503 t506 t507 _ A1.out).mono ?_); rintro e w12 ⟨v504, rfl, ho0, hb⟩; refine ⟨_, rfl, ?_⟩; have n0_ := Aside0.mk (Kd.R_lower ho0 (below_size bw)); have n1_ := Aside0.mk (below_step bw hb); clear HB; have HO505 := n0_; have HB := n1_; clear n0_ n1_; (try clear hb); (try clear hb2); (try clear hk); (try clear hi); (try clear ho0)) | ((with_reducible refine gate_dst (N := 1) rfl ?_); (try (refine gate_guard (by rfl) ?_; dsimp only)); refine box_event ?hg (N := 1) ?hd (cs := #[.slice none 0 0, .string (⟨#[]⟩ : ByteArray)]) (t := 53) ?hr ?_; (case hd => rfl); (case hg => rfl); (case hr => first | (go_simp; done) | (go_simp; rfl)); intro gb508 hg w13 hbox hb; have n0_ := Aside0.mk (Kd.R_below (by (with_reducible repeat (first | apply Kd.R_alloc | apply Kd.R_drewN | apply Kd.R_drew)); exact HO505.out) hb); have n1_ := Aside0.mk (below_step bw hb); have n2_ := Aside0.mk (hbox); have n3_ := Aside0.mk ((by rw [hg]; exact (below_size bw) : w.heap.size ≤ gb508)); have n4_ := Aside0.mk ((by rw [hg]; exact (below_size bw) : w.heap.size ≤ gb508)); clear HO505; clear HB; have HO505 := n0_; have HB := n1_; have BK508 := n2_; have GW508 := n3_; have GE508 := n4_; clear n0_ n1_ n2_ n3_ n4_; clear hb hbox hg; obtain ⟨Ao14, co14, eo14⟩ := Kd.R_slice HO505.out; subst eo14; have hcz15_0 : w13.cell? ⟨gb508, 0, none⟩ = some (.slice none 0 0) := (blk_cell BK508.out 0).trans rfl; have hcz15_1 : w13.cell? ⟨gb508, 1, none⟩ = some (.string (⟨#[]⟩ : ByteArray)) := (blk_cell BK508.out 1).trans rfl; have hfz15_0 := blk_frozen BK508.out 0; have hfz15_1 := blk_frozen BK508.out 1) | ((with_reducible refine gate_callee (f := 43) rfl ?_); refine goesL_ (some 12) rfl rfl Tryd.func43 (by kernel_rfl) rfl #[.agg #[.slice Ao14 t503.length co14, .string t506]] rfl am ?_; (with_reducible refine (msg_Message_From.calls (hG := by first | exact hG | exact Glob.below hG (by first | exact HB.out | (repeat (first | (with_reducible first | exact HB.out | apply below_alloc | apply pw_below_drewN | apply below_drew1 | refine below_set ?_ GE508.out | refine below_set ?_ GE513.out) | exact HB.out))) | exact Glob.drawn hG (by repeat (first | exact Drawn0.refl _ | apply Drawn0.step))) k _ _ t503 t506 t509 t510 t511 t512 _ ?side1 ?side2 A2.out).mono ?_); (case side1 => refine (Kd.R_reads' (e := 126) (base := w.heap.size) (ok := fun k_ => True) (n := t503.length) (c := co14) ?_).2.2; exact (by (with_reducible repeat (first | apply Kd.R_alloc | apply Kd.R_drewN | apply Kd.R_drew)); exact (Kd.R_mono (Kd.R_far (p := ⟨gb508, 1, none⟩) (Kd.R_far (p := ⟨gb508, 0, none⟩) (Kd.R_types HO505.out BK508.out (by decide)) (fun _ hk => hk.2) (.slice Ao14 t503.length co14)) (fun _ hk => hk.2) (.string t506)) (fun _ h_ => h_.1)))); (case side2 => exact (Kd.R_reads' HO505.out).2.1); rintro e w16 ⟨rfl, hb⟩; refine ⟨_, rfl, ?_⟩; have n0_ := Aside0.mk (Kd.R_below (by (with_reducible repeat (first | apply Kd.R_alloc | apply Kd.R_drewN | apply Kd.R_drew)); exact (Kd.R_mono (Kd.R_far (p := ⟨gb508, 1, none⟩) (Kd.R_far (p := ⟨gb508, 0, none⟩) (Kd.R_types HO505.out BK508.out (by decide)) (fun _ hk => hk.2) (.slice Ao14 t503.length co14)) (fun _ hk => hk.2) (.string t506)) (fun _ h_ => h_.1))) hb); have n1_ := Aside0.mk (blk_below (g := gb508) (o := .cells #[.slice Ao14 t503.length co14, .string t506] 53 (0, 0)) (by (with_reducible repeat (first | refine blk_drewN ?_ _ | refine blk_drew ?_ | refine blk_alloc ?_ _)); refine blk_put (cs := #[.slice Ao14 t503.length co14, .string (⟨#[]⟩ : ByteArray)]) ?_ 1 _ rfl; (with_reducible repeat (first | refine blk_drewN ?_ _ | refine blk_drew ?_ | refine blk_alloc ?_ _)); refine blk_put (cs := #[.slice none 0 0, .string (⟨#[]⟩ : ByteArray)]) ?_ 0 _ rfl; (with_reducible repeat (first | refine blk_drewN ?_ _ | refine blk_drew ?_ | refine blk_alloc ?_ _)); exact BK508.out) hb); have n2_ := Aside0.mk (below_step bwS hb); clear HO505; clear BK508; clear HB; have HO505 := n0_; have BK508 := n1_; have HB := n2_; clear n0_ n1_ n2_; (try clear hb); (try clear hb2); (try clear hk); (try clear hi)) | ((with_reducible refine gate_dst (N := 3) rfl ?_); (try (refine gate_guard (by rfl) ?_; dsimp only)); refine box_event ?hg (N := 3) ?hd (cs := #[.string (⟨#[]⟩ : ByteArray), .string (⟨#[]⟩ : ByteArray), .string (⟨#[]⟩ : ByteArray)]) (t := 31) ?hr ?_; (case hd => rfl); (case hg => rfl); (case hr => first | (go_simp; done) | (go_simp; rfl)); intro gb513 hg w17 hbox hb; have n0_ := Aside0.mk (Kd.R_below (by (with_reducible repeat (first | apply Kd.R_alloc | apply Kd.R_drewN | apply Kd.R_drew)); exact HO505.out) hb); have n1_ := Aside0.mk (blk_below (g := gb508) (o := .cells #[.slice Ao14 t503.length co14, .string t506] 53 (0, 0)) bk hb); have n2_ := Aside0.mk (below_step bwS hb); have n3_ := Aside0.mk (hbox); have n4_ := Aside0.mk ((by rw [hg]; exact (below_size bwS) : w.heap.size ≤ gb513)); have n5_ := Aside0.mk ((by rw [hg]; exact (below_size bwS) : w.heap.size ≤ gb513)); have n6_ := Aside0.mk ((by rw [hg]; exact Nat.ne_of_lt (blk_lt (g := gb508) (o := .cells #[.slice Ao14 t503.length co14, .string t506] 53 (0, 0)) bk) : gb508 ≠ gb513)); have n7_ := Aside0.mk ((by rw [hg]; exact Nat.ne_of_gt (blk_lt (g := gb508) (o := .cells #[.slice Ao14 t503.length co14, .string t506] 53 (0, 0)) bk) : gb513 ≠ gb508)); clear HO505; clear BK508; clear HB; have HO505 := n0_; have BK508 := n1_; have HB := n2_; have BK513 := n3_; have GW513 := n4_; have GE513 := n5_; have NB508_513 := n6_; have NB513_508 := n7_; clear n0_ n1_ n2_ n3_ n4_ n5_ n6_ n7_; clear hb hbox hg; have hnb18 := NB513_508.out; have hnc18 := NB508_513.out; have hcz19_0 : w17.cell? ⟨gb513, 0, none⟩ = some (.string (⟨#[]⟩ : ByteArray)) := (blk_cell BK513.out 0).trans rfl; have hcz19_1 : w17.cell? ⟨gb513, 1, none⟩ = some (.string (⟨#[]⟩ : ByteArray)) := (blk_cell BK513.out 1).trans rfl; have hcz19_2 : w17.cell? ⟨gb513, 2, none⟩ = some (.string (⟨#[]⟩ : ByteArray)) := (blk_cell BK513.out 2).trans rfl; have hfz19_0 := blk_frozen BK513.out 0; have hfz19_1 := blk_frozen BK513.out 1; have hfz19_2 := blk_frozen BK513.out 2; have hcz20_0 : w17.cell? ⟨gb508, 0, none⟩ = some (.slice Ao14 t503.length co14) := (blk_cell BK508.out 0).trans rfl; have hcz20_1 : w17.cell? ⟨gb508, 1, none⟩ = some (.string t506) := (blk_cell BK508.out 1).trans rfl; have hfz20_0 := blk_frozen BK508.out 0; have hfz20_1 := blk_frozen BK508.out 1) | ((with_reducible refine gate_callee (f := 23) rfl ?_); refine goesL_ (some 16) rfl rfl Tryd.func23 (by kernel_rfl) rfl #[.agg #[.slice Ao14 t503.length co14, .string t506]] rfl am ?_; (with_reducible refine (msg_Message_Lines.calls (hG := by first | exact hG | exact Glob.below hG (by first | exact HB.out | (repeat (first | (with_reducible first | exact HB.out | apply below_alloc | apply pw_below_drewN | apply below_drew1 | refine below_set ?_ GE508.out | refine below_set ?_ GE513.out) | exact HB.out))) | exact Glob.drawn hG (by repeat (first | exact Drawn0.refl _ | apply Drawn0.step))) k _ _ t503 t506 t514 _ ?side1 ?side2 A3.out).mono ?_); (case side1 => refine (Kd.R_reads' (e := 126) (base := w.heap.size) (ok := fun k_ => True) (n := t503.length) (c := co14) ?_).2.2; exact (by (with_reducible repeat (first | apply Kd.R_alloc | apply Kd.R_drewN | apply Kd.R_drew)); exact (Kd.R_mono (Kd.R_far (p := ⟨gb513, 2, none⟩) (Kd.R_far (p := ⟨gb513, 1, none⟩) (Kd.R_far (p := ⟨gb513, 0, none⟩) (Kd.R_types HO505.out BK513.out (by decide)) (fun _ hk => hk.2) (.string t509)) (fun _ hk => hk.2) (.string t510)) (fun _ hk => hk.2) (.string t511)) (fun _ h_ => h_.1)))); (case side2 => exact (Kd.R_reads' HO505.out).2.1); rintro e w21 ⟨v515, rfl, ho0, hb⟩; refine ⟨_, rfl, ?_⟩; have n0_ := Aside0.mk (Kd.R_below (by (with_reducible repeat (first | apply Kd.R_alloc | apply Kd.R_drewN | apply Kd.R_drew)); exact (Kd.R_mono (Kd.R_far (p := ⟨gb513, 2, none⟩) (Kd.R_far (p := ⟨gb513, 1, none⟩) (Kd.R_far (p := ⟨gb513, 0, none⟩) (Kd.R_types HO505.out BK513.out (by decide)) (fun _ hk => hk.2) (.string t509)) (fun _ hk => hk.2) (.string t510)) (fun _ hk => hk.2) (.string t511)) (fun _ h_ => h_.1))) hb); have n1_ := Aside0.mk (Kd.R_lower ho0 (below_size bwS)); have n2_ := Aside0.mk (blk_below (g := gb508) (o := .cells #[.slice Ao14 t503.length co14, .string t506] 53 (0, 0)) (by (with_reducible repeat (first | refine blk_drewN ?_ _ | refine blk_drew ?_ | refine blk_alloc ?_ _)); refine blk_far ?_ NB508_513.out _; (with_reducible repeat (first | refine blk_drewN ?_ _ | refine blk_drew ?_ | refine blk_alloc ?_ _)); refine blk_far ?_ NB508_513.out _; (with_reducible repeat (first | refine blk_drewN ?_ _ | refine blk_drew ?_ | refine blk_alloc ?_ _)); refine blk_far ?_ NB508_513.out _; (with_reducible repeat (first | refine blk_drewN ?_ _ | refine blk_drew ?_ | refine blk_alloc ?_ _)); exact BK508.out) hb); have n3_ := Aside0.mk (blk_below (g := gb513) (o := .cells #[.string t509, .string t510, .string t511] 31 (0, 0)) (by (with_reducible repeat (first | refine blk_drewN ?_ _ | refine blk_drew ?_ | refine blk_alloc ?_ _)); refine blk_put (cs := #[.string t509, .string t510, .string (⟨#[]⟩ : ByteArray)]) ?_ 2 _ rfl; (with_reducible repeat (first | refine blk_drewN ?_ _ | refine blk_drew ?_ | refine blk_alloc ?_ _)); refine blk_put (cs := #[.string t509, .string (⟨#[]⟩ : ByteArray), .string (⟨#[]⟩ : ByteArray)]) ?_ 1 _ rfl; (with_reducible repeat (first | refine blk_drewN ?_ _ | refine blk_drew ?_ | refine blk_alloc ?_ _)); refine blk_put (cs := #[.string (⟨#[]⟩ : ByteArray), .string (⟨#[]⟩ : ByteArray), .string (⟨#[]⟩ : ByteArray)]) ?_ 0 _ rfl; (with_reducible repeat (first | refine blk_drewN ?_ _ | refine blk_drew ?_ | refine blk_alloc ?_ _)); exact BK513.out) hb); have n4_ := Aside0.mk (below_step bwS hb); clear HO505; clear BK508; clear BK513; clear HB; have HO505 := n0_; have HO516 := n1_; have BK508 := n2_; have BK513 := n3_; have HB := n4_; clear n0_ n1_ n2_ n3_ n4_; (try clear hb); (try clear hb2); (try clear hk); (try clear hi); (try clear ho0); have hcz22_0 : w21.cell? ⟨gb513, 0, none⟩ = some (.string t509) := (blk_cell BK513.out 0).trans rfl; have hcz22_1 : w21.cell? ⟨gb513, 1, none⟩ = some (.string t510) := (blk_cell BK513.out 1).trans rfl; have hcz22_2 : w21.cell? ⟨gb513, 2, none⟩ = some (.string t511) := (blk_cell BK513.out 2).trans rfl; have hfz22_0 := blk_frozen BK513.out 0; have hfz22_1 := blk_frozen BK513.out 1; have hfz22_2 := blk_frozen BK513.out 2; obtain ⟨Ao23, co23, eo23⟩ := Kd.R_slice HO516.out; subst eo23; have p517 : 0 ≤ (0 : Int) := (by omega); have q517 : 0 < (t514.length : Int) := od; obtain ⟨ad517, e517, hx517_0⟩ := Kd.at_string (Kd.R_reads' HO516.out).2.2 0 p517 q517; cases e517; have qi517 : (0 < t514.length) = True := eq_true (by omega); (try rw [show ((0 : Int)).toNat = 0 from rfl] at hx517_0); (try rw [Addr.add_zero'] at hx517_0); replace p517 := eq_true p517; replace q517 := eq_true q517; have hcz24_0 : w21.cell? ⟨gb508, 0, none⟩ = some (.slice Ao14 t503.length co14) := (blk_cell BK508.out 0).trans rfl; have hcz24_1 : w21.cell? ⟨gb508, 1, none⟩ = some (.string t506) := (blk_cell BK508.out 1).trans rfl; have hfz24_0 := blk_frozen BK508.out 0; have hfz24_1 := blk_frozen BK508.out 1) | (go_at_call 44; (with_reducible refine (msg_Message_Text.calls _ _ t503 t506 t518 _ ?side1 ?side2 A11.out).mono ?_); (case side1 => repeat (first | exact (Kd.R_reads' HO505.out).2.2 | (with_reducible refine Kd.C_alloc ?_ _) | (with_reducible refine Kd.C_drewN ?_ _) | (with_reducible refine Kd.C_drew ?_))); (case side2 => exact (Kd.R_reads' HO505.out).2.1); rintro e w25 ⟨rfl, hb⟩; have n0_ := Aside0.mk (Kd.R_below (by (with_reducible repeat (first | apply Kd.R_alloc | apply Kd.R_drewN | apply Kd.R_drew)); exact HO505.out) hb); have n1_ := Aside0.mk (Kd.R_below (by (with_reducible repeat (first | apply Kd.R_alloc | apply Kd.R_drewN | apply Kd.R_drew)); exact HO516.out) hb); have n2_ := Aside0.mk (blk_below (g := gb508) (o := .cells #[.slice Ao14 t503.length co14, .string t506] 53 (0, 0)) bk hb); have n3_ := Aside0.mk (blk_below (g := gb513) (o := .cells #[.string t509, .string t510, .string t511] 31 (0, 0)) bk hb); have n4_ := Aside0.mk (below_step bwS hb); clear HO505; clear HO516; clear BK508; clear BK513; clear HB; have HO505 := n0_; have HO516 := n1_; have BK508 := n2_; have BK513 := n3_; have HB := n4_; clear n0_ n1_ n2_ n3_ n4_; (try clear hb); (try clear hb2); (try clear hk); (try clear hi)))
        go_ret
        exact ⟨by first | rfl | (simp [errW_none, errW_some] <;> rfl) | (simp [*, errW_none, errW_some] <;> rfl), bwS⟩
       ·rw [if_neg c10] at H
        have c10b0 : ((rdOf ByteArray.empty t514 0).toList == ([104, 105] : List UInt8)) = false := beq_eq_false_iff_ne.mpr c10
        have c10b1 : ((rdOf ByteArray.empty t514 0).toList != ([104, 105] : List UInt8)) = true := bne_iff_ne.mpr c10
        obtain rfl := Option.some.inj H
        go_enter Tryd.func22, Tryd.ntmps22
        go_wp2_with (first | ((with_reducible refine gate_callee (f := 42) rfl ?_); refine goesL_ (some 7) rfl rfl Tryd.func42 (by kernel_rfl) rfl #[.string (⟨#[70, 114, 111, 109, 58, 32, 65, 110, 110, 32, 60, 97, 64, 98, 62, 13, 10, 13, 10, 104, 105, 13, 10]⟩ : ByteArray)] rfl am ?_; (with_reducible refine (msg_Parse.calls (hG := by first | exact hG | exact Glob.below hG (by first | exact HB.out | (repeat (first | (with_reducible first | exact HB.out | apply below_alloc | apply pw_below_drewN | apply below_drew1 | refine below_set ?_ GE508.out | refine below_set ?_ GE513.out) | exact HB.out))) | exact Glob.drawn hG (by repeat (first | exact Drawn0.refl _ | apply Drawn0.step))) k (⟨#[70, 114, 111, 109, 58, 32, 65, 110, 110, 32, 60, 97, 64, 98, 62, 13, 10, 13, 10, 104, 105, 13, 10]⟩ : ByteArray) t503 t506 t507 _ A1.out).mono ?_); rintro e w26 ⟨v504, rfl, ho0, hb⟩; refine ⟨_, rfl, ?_⟩; have n0_ := Aside0.mk (Kd.R_lower ho0 (below_size bw)); have n1_ := Aside0.mk (below_step bw hb); clear HB; have HO505 := n0_; have HB := n1_; clear n0_ n1_; (try clear hb); (try clear hb2); (try clear hk); (try clear hi); (try clear ho0)) | ((with_reducible refine gate_dst (N := 1) rfl ?_); (try (refine gate_guard (by rfl) ?_; dsimp only)); refine box_event ?hg (N := 1) ?hd (cs := #[.slice none 0 0, .string (⟨#[]⟩ : ByteArray)]) (t := 53) ?hr ?_; (case hd => rfl); (case hg => rfl); (case hr => first | (go_simp; done) | (go_simp; rfl)); intro gb508 hg w27 hbox hb; have n0_ := Aside0.mk (Kd.R_below (by (with_reducible repeat (first | apply Kd.R_alloc | apply Kd.R_drewN | apply Kd.R_drew)); exact HO505.out) hb); have n1_ := Aside0.mk (below_step bw hb); have n2_ := Aside0.mk (hbox); have n3_ := Aside0.mk ((by rw [hg]; exact (below_size bw) : w.heap.size ≤ gb508)); have n4_ := Aside0.mk ((by rw [hg]; exact (below_size bw) : w.heap.size ≤ gb508)); clear HO505; clear HB; have HO505 := n0_; have HB := n1_; have BK508 := n2_; have GW508 := n3_; have GE508 := n4_; clear n0_ n1_ n2_ n3_ n4_; clear hb hbox hg; obtain ⟨Ao28, co28, eo28⟩ := Kd.R_slice HO505.out; subst eo28; have hcz29_0 : w27.cell? ⟨gb508, 0, none⟩ = some (.slice none 0 0) := (blk_cell BK508.out 0).trans rfl; have hcz29_1 : w27.cell? ⟨gb508, 1, none⟩ = some (.string (⟨#[]⟩ : ByteArray)) := (blk_cell BK508.out 1).trans rfl; have hfz29_0 := blk_frozen BK508.out 0; have hfz29_1 := blk_frozen BK508.out 1) | ((with_reducible refine gate_callee (f := 43) rfl ?_); refine goesL_ (some 12) rfl rfl Tryd.func43 (by kernel_rfl) rfl #[.agg #[.slice Ao28 t503.length co28, .string t506]] rfl am ?_; (with_reducible refine (msg_Message_From.calls (hG := by first | exact hG | exact Glob.below hG (by first | exact HB.out | (repeat (first | (with_reducible first | exact HB.out | apply below_alloc | apply pw_below_drewN | apply below_drew1 | refine below_set ?_ GE508.out | refine below_set ?_ GE513.out) | exact HB.out))) | exact Glob.drawn hG (by repeat (first | exact Drawn0.refl _ | apply Drawn0.step))) k _ _ t503 t506 t509 t510 t511 t512 _ ?side1 ?side2 A2.out).mono ?_); (case side1 => refine (Kd.R_reads' (e := 126) (base := w.heap.size) (ok := fun k_ => True) (n := t503.length) (c := co28) ?_).2.2; exact (by (with_reducible repeat (first | apply Kd.R_alloc | apply Kd.R_drewN | apply Kd.R_drew)); exact (Kd.R_mono (Kd.R_far (p := ⟨gb508, 1, none⟩) (Kd.R_far (p := ⟨gb508, 0, none⟩) (Kd.R_types HO505.out BK508.out (by decide)) (fun _ hk => hk.2) (.slice Ao28 t503.length co28)) (fun _ hk => hk.2) (.string t506)) (fun _ h_ => h_.1)))); (case side2 => exact (Kd.R_reads' HO505.out).2.1); rintro e w30 ⟨rfl, hb⟩; refine ⟨_, rfl, ?_⟩; have n0_ := Aside0.mk (Kd.R_below (by (with_reducible repeat (first | apply Kd.R_alloc | apply Kd.R_drewN | apply Kd.R_drew)); exact (Kd.R_mono (Kd.R_far (p := ⟨gb508, 1, none⟩) (Kd.R_far (p := ⟨gb508, 0, none⟩) (Kd.R_types HO505.out BK508.out (by decide)) (fun _ hk => hk.2) (.slice Ao28 t503.length co28)) (fun _ hk => hk.2) (.string t506)) (fun _ h_ => h_.1))) hb); have n1_ := Aside0.mk (blk_below (g := gb508) (o := .cells #[.slice Ao28 t503.length co28, .string t506] 53 (0, 0)) (by (with_reducible repeat (first | refine blk_drewN ?_ _ | refine blk_drew ?_ | refine blk_alloc ?_ _)); refine blk_put (cs := #[.slice Ao28 t503.length co28, .string (⟨#[]⟩ : ByteArray)]) ?_ 1 _ rfl; (with_reducible repeat (first | refine blk_drewN ?_ _ | refine blk_drew ?_ | refine blk_alloc ?_ _)); refine blk_put (cs := #[.slice none 0 0, .string (⟨#[]⟩ : ByteArray)]) ?_ 0 _ rfl; (with_reducible repeat (first | refine blk_drewN ?_ _ | refine blk_drew ?_ | refine blk_alloc ?_ _)); exact BK508.out) hb); have n2_ := Aside0.mk (below_step bwS hb); clear HO505; clear BK508; clear HB; have HO505 := n0_; have BK508 := n1_; have HB := n2_; clear n0_ n1_ n2_; (try clear hb); (try clear hb2); (try clear hk); (try clear hi)) | ((with_reducible refine gate_dst (N := 3) rfl ?_); (try (refine gate_guard (by rfl) ?_; dsimp only)); refine box_event ?hg (N := 3) ?hd (cs := #[.string (⟨#[]⟩ : ByteArray), .string (⟨#[]⟩ : ByteArray), .string (⟨#[]⟩ : ByteArray)]) (t := 31) ?hr ?_; (case hd => rfl); (case hg => rfl); (case hr => first | (go_simp; done) | (go_simp; rfl)); intro gb513 hg w31 hbox hb; have n0_ := Aside0.mk (Kd.R_below (by (with_reducible repeat (first | apply Kd.R_alloc | apply Kd.R_drewN | apply Kd.R_drew)); exact HO505.out) hb); have n1_ := Aside0.mk (blk_below (g := gb508) (o := .cells #[.slice Ao28 t503.length co28, .string t506] 53 (0, 0)) bk hb); have n2_ := Aside0.mk (below_step bwS hb); have n3_ := Aside0.mk (hbox); have n4_ := Aside0.mk ((by rw [hg]; exact (below_size bwS) : w.heap.size ≤ gb513)); have n5_ := Aside0.mk ((by rw [hg]; exact (below_size bwS) : w.heap.size ≤ gb513)); have n6_ := Aside0.mk ((by rw [hg]; exact Nat.ne_of_lt (blk_lt (g := gb508) (o := .cells #[.slice Ao28 t503.length co28, .string t506] 53 (0, 0)) bk) : gb508 ≠ gb513)); have n7_ := Aside0.mk ((by rw [hg]; exact Nat.ne_of_gt (blk_lt (g := gb508) (o := .cells #[.slice Ao28 t503.length co28, .string t506] 53 (0, 0)) bk) : gb513 ≠ gb508)); clear HO505; clear BK508; clear HB; have HO505 := n0_; have BK508 := n1_; have HB := n2_; have BK513 := n3_; have GW513 := n4_; have GE513 := n5_; have NB508_513 := n6_; have NB513_508 := n7_; clear n0_ n1_ n2_ n3_ n4_ n5_ n6_ n7_; clear hb hbox hg; have hnb32 := NB513_508.out; have hnc32 := NB508_513.out; have hcz33_0 : w31.cell? ⟨gb513, 0, none⟩ = some (.string (⟨#[]⟩ : ByteArray)) := (blk_cell BK513.out 0).trans rfl; have hcz33_1 : w31.cell? ⟨gb513, 1, none⟩ = some (.string (⟨#[]⟩ : ByteArray)) := (blk_cell BK513.out 1).trans rfl; have hcz33_2 : w31.cell? ⟨gb513, 2, none⟩ = some (.string (⟨#[]⟩ : ByteArray)) := (blk_cell BK513.out 2).trans rfl; have hfz33_0 := blk_frozen BK513.out 0; have hfz33_1 := blk_frozen BK513.out 1; have hfz33_2 := blk_frozen BK513.out 2; have hcz34_0 : w31.cell? ⟨gb508, 0, none⟩ = some (.slice Ao28 t503.length co28) := (blk_cell BK508.out 0).trans rfl; have hcz34_1 : w31.cell? ⟨gb508, 1, none⟩ = some (.string t506) := (blk_cell BK508.out 1).trans rfl; have hfz34_0 := blk_frozen BK508.out 0; have hfz34_1 := blk_frozen BK508.out 1) | ((with_reducible refine gate_callee (f := 23) rfl ?_); refine goesL_ (some 16) rfl rfl Tryd.func23 (by kernel_rfl) rfl #[.agg #[.slice Ao28 t503.length co28, .string t506]] rfl am ?_; (with_reducible refine (msg_Message_Lines.calls (hG := by first | exact hG | exact Glob.below hG (by first | exact HB.out | (repeat (first | (with_reducible first | exact HB.out | apply below_alloc | apply pw_below_drewN | apply below_drew1 | refine below_set ?_ GE508.out | refine below_set ?_ GE513.out) | exact HB.out))) | exact Glob.drawn hG (by repeat (first | exact Drawn0.refl _ | apply Drawn0.step))) k _ _ t503 t506 t514 _ ?side1 ?side2 A3.out).mono ?_); (case side1 => refine (Kd.R_reads' (e := 126) (base := w.heap.size) (ok := fun k_ => True) (n := t503.length) (c := co28) ?_).2.2; exact (by (with_reducible repeat (first | apply Kd.R_alloc | apply Kd.R_drewN | apply Kd.R_drew)); exact (Kd.R_mono (Kd.R_far (p := ⟨gb513, 2, none⟩) (Kd.R_far (p := ⟨gb513, 1, none⟩) (Kd.R_far (p := ⟨gb513, 0, none⟩) (Kd.R_types HO505.out BK513.out (by decide)) (fun _ hk => hk.2) (.string t509)) (fun _ hk => hk.2) (.string t510)) (fun _ hk => hk.2) (.string t511)) (fun _ h_ => h_.1)))); (case side2 => exact (Kd.R_reads' HO505.out).2.1); rintro e w35 ⟨v515, rfl, ho0, hb⟩; refine ⟨_, rfl, ?_⟩; have n0_ := Aside0.mk (Kd.R_below (by (with_reducible repeat (first | apply Kd.R_alloc | apply Kd.R_drewN | apply Kd.R_drew)); exact (Kd.R_mono (Kd.R_far (p := ⟨gb513, 2, none⟩) (Kd.R_far (p := ⟨gb513, 1, none⟩) (Kd.R_far (p := ⟨gb513, 0, none⟩) (Kd.R_types HO505.out BK513.out (by decide)) (fun _ hk => hk.2) (.string t509)) (fun _ hk => hk.2) (.string t510)) (fun _ hk => hk.2) (.string t511)) (fun _ h_ => h_.1))) hb); have n1_ := Aside0.mk (Kd.R_lower ho0 (below_size bwS)); have n2_ := Aside0.mk (blk_below (g := gb508) (o := .cells #[.slice Ao28 t503.length co28, .string t506] 53 (0, 0)) (by (with_reducible repeat (first | refine blk_drewN ?_ _ | refine blk_drew ?_ | refine blk_alloc ?_ _)); refine blk_far ?_ NB508_513.out _; (with_reducible repeat (first | refine blk_drewN ?_ _ | refine blk_drew ?_ | refine blk_alloc ?_ _)); refine blk_far ?_ NB508_513.out _; (with_reducible repeat (first | refine blk_drewN ?_ _ | refine blk_drew ?_ | refine blk_alloc ?_ _)); refine blk_far ?_ NB508_513.out _; (with_reducible repeat (first | refine blk_drewN ?_ _ | refine blk_drew ?_ | refine blk_alloc ?_ _)); exact BK508.out) hb); have n3_ := Aside0.mk (blk_below (g := gb513) (o := .cells #[.string t509, .string t510, .string t511] 31 (0, 0)) (by (with_reducible repeat (first | refine blk_drewN ?_ _ | refine blk_drew ?_ | refine blk_alloc ?_ _)); refine blk_put (cs := #[.string t509, .string t510, .string (⟨#[]⟩ : ByteArray)]) ?_ 2 _ rfl; (with_reducible repeat (first | refine blk_drewN ?_ _ | refine blk_drew ?_ | refine blk_alloc ?_ _)); refine blk_put (cs := #[.string t509, .string (⟨#[]⟩ : ByteArray), .string (⟨#[]⟩ : ByteArray)]) ?_ 1 _ rfl; (with_reducible repeat (first | refine blk_drewN ?_ _ | refine blk_drew ?_ | refine blk_alloc ?_ _)); refine blk_put (cs := #[.string (⟨#[]⟩ : ByteArray), .string (⟨#[]⟩ : ByteArray), .string (⟨#[]⟩ : ByteArray)]) ?_ 0 _ rfl; (with_reducible repeat (first | refine blk_drewN ?_ _ | refine blk_drew ?_ | refine blk_alloc ?_ _)); exact BK513.out) hb); have n4_ := Aside0.mk (below_step bwS hb); clear HO505; clear BK508; clear BK513; clear HB; have HO505 := n0_; have HO516 := n1_; have BK508 := n2_; have BK513 := n3_; have HB := n4_; clear n0_ n1_ n2_ n3_ n4_; (try clear hb); (try clear hb2); (try clear hk); (try clear hi); (try clear ho0); have hcz36_0 : w35.cell? ⟨gb513, 0, none⟩ = some (.string t509) := (blk_cell BK513.out 0).trans rfl; have hcz36_1 : w35.cell? ⟨gb513, 1, none⟩ = some (.string t510) := (blk_cell BK513.out 1).trans rfl; have hcz36_2 : w35.cell? ⟨gb513, 2, none⟩ = some (.string t511) := (blk_cell BK513.out 2).trans rfl; have hfz36_0 := blk_frozen BK513.out 0; have hfz36_1 := blk_frozen BK513.out 1; have hfz36_2 := blk_frozen BK513.out 2; obtain ⟨Ao37, co37, eo37⟩ := Kd.R_slice HO516.out; subst eo37; have p517 : 0 ≤ (0 : Int) := (by omega); have q517 : 0 < (t514.length : Int) := od; obtain ⟨ad517, e517, hx517_0⟩ := Kd.at_string (Kd.R_reads' HO516.out).2.2 0 p517 q517; cases e517; have qi517 : (0 < t514.length) = True := eq_true (by omega); (try rw [show ((0 : Int)).toNat = 0 from rfl] at hx517_0); (try rw [Addr.add_zero'] at hx517_0); replace p517 := eq_true p517; replace q517 := eq_true q517))
        go_ret
        exact ⟨by first | rfl | (simp [errW_none, errW_some] <;> rfl) | (simp [*, errW_none, errW_some] <;> rfl), bwS⟩
      ·rw [if_neg c9] at H
       exact absurd H (by simp)
     ·rw [if_neg c8] at H
      have c8b0 : ((t514.length : Int) == 1) = false := beq_eq_false_iff_ne.mpr c8
      have c8b1 : ((t514.length : Int) != 1) = true := bne_iff_ne.mpr c8
      obtain rfl := Option.some.inj H
      go_enter Tryd.func22, Tryd.ntmps22
      go_wp2_with (first | ((with_reducible refine gate_callee (f := 42) rfl ?_); refine goesL_ (some 7) rfl rfl Tryd.func42 (by kernel_rfl) rfl #[.string (⟨#[70, 114, 111, 109, 58, 32, 65, 110, 110, 32, 60, 97, 64, 98, 62, 13, 10, 13, 10, 104, 105, 13, 10]⟩ : ByteArray)] rfl am ?_; (with_reducible refine (msg_Parse.calls (hG := by first | exact hG | exact Glob.below hG (by first | exact HB.out | (repeat (first | (with_reducible first | exact HB.out | apply below_alloc | apply pw_below_drewN | apply below_drew1 | refine below_set ?_ GE508.out | refine below_set ?_ GE513.out) | exact HB.out))) | exact Glob.drawn hG (by repeat (first | exact Drawn0.refl _ | apply Drawn0.step))) k (⟨#[70, 114, 111, 109, 58, 32, 65, 110, 110, 32, 60, 97, 64, 98, 62, 13, 10, 13, 10, 104, 105, 13, 10]⟩ : ByteArray) t503 t506 t507 _ A1.out).mono ?_); rintro e w38 ⟨v504, rfl, ho0, hb⟩; refine ⟨_, rfl, ?_⟩; have n0_ := Aside0.mk (Kd.R_lower ho0 (below_size bw)); have n1_ := Aside0.mk (below_step bw hb); clear HB; have HO505 := n0_; have HB := n1_; clear n0_ n1_; (try clear hb); (try clear hb2); (try clear hk); (try clear hi); (try clear ho0)) | ((with_reducible refine gate_dst (N := 1) rfl ?_); (try (refine gate_guard (by rfl) ?_; dsimp only)); refine box_event ?hg (N := 1) ?hd (cs := #[.slice none 0 0, .string (⟨#[]⟩ : ByteArray)]) (t := 53) ?hr ?_; (case hd => rfl); (case hg => rfl); (case hr => first | (go_simp; done) | (go_simp; rfl)); intro gb508 hg w39 hbox hb; have n0_ := Aside0.mk (Kd.R_below (by (with_reducible repeat (first | apply Kd.R_alloc | apply Kd.R_drewN | apply Kd.R_drew)); exact HO505.out) hb); have n1_ := Aside0.mk (below_step bw hb); have n2_ := Aside0.mk (hbox); have n3_ := Aside0.mk ((by rw [hg]; exact (below_size bw) : w.heap.size ≤ gb508)); have n4_ := Aside0.mk ((by rw [hg]; exact (below_size bw) : w.heap.size ≤ gb508)); clear HO505; clear HB; have HO505 := n0_; have HB := n1_; have BK508 := n2_; have GW508 := n3_; have GE508 := n4_; clear n0_ n1_ n2_ n3_ n4_; clear hb hbox hg; obtain ⟨Ao40, co40, eo40⟩ := Kd.R_slice HO505.out; subst eo40; have hcz41_0 : w39.cell? ⟨gb508, 0, none⟩ = some (.slice none 0 0) := (blk_cell BK508.out 0).trans rfl; have hcz41_1 : w39.cell? ⟨gb508, 1, none⟩ = some (.string (⟨#[]⟩ : ByteArray)) := (blk_cell BK508.out 1).trans rfl; have hfz41_0 := blk_frozen BK508.out 0; have hfz41_1 := blk_frozen BK508.out 1) | ((with_reducible refine gate_callee (f := 43) rfl ?_); refine goesL_ (some 12) rfl rfl Tryd.func43 (by kernel_rfl) rfl #[.agg #[.slice Ao40 t503.length co40, .string t506]] rfl am ?_; (with_reducible refine (msg_Message_From.calls (hG := by first | exact hG | exact Glob.below hG (by first | exact HB.out | (repeat (first | (with_reducible first | exact HB.out | apply below_alloc | apply pw_below_drewN | apply below_drew1 | refine below_set ?_ GE508.out | refine below_set ?_ GE513.out) | exact HB.out))) | exact Glob.drawn hG (by repeat (first | exact Drawn0.refl _ | apply Drawn0.step))) k _ _ t503 t506 t509 t510 t511 t512 _ ?side1 ?side2 A2.out).mono ?_); (case side1 => refine (Kd.R_reads' (e := 126) (base := w.heap.size) (ok := fun k_ => True) (n := t503.length) (c := co40) ?_).2.2; exact (by (with_reducible repeat (first | apply Kd.R_alloc | apply Kd.R_drewN | apply Kd.R_drew)); exact (Kd.R_mono (Kd.R_far (p := ⟨gb508, 1, none⟩) (Kd.R_far (p := ⟨gb508, 0, none⟩) (Kd.R_types HO505.out BK508.out (by decide)) (fun _ hk => hk.2) (.slice Ao40 t503.length co40)) (fun _ hk => hk.2) (.string t506)) (fun _ h_ => h_.1)))); (case side2 => exact (Kd.R_reads' HO505.out).2.1); rintro e w42 ⟨rfl, hb⟩; refine ⟨_, rfl, ?_⟩; have n0_ := Aside0.mk (Kd.R_below (by (with_reducible repeat (first | apply Kd.R_alloc | apply Kd.R_drewN | apply Kd.R_drew)); exact (Kd.R_mono (Kd.R_far (p := ⟨gb508, 1, none⟩) (Kd.R_far (p := ⟨gb508, 0, none⟩) (Kd.R_types HO505.out BK508.out (by decide)) (fun _ hk => hk.2) (.slice Ao40 t503.length co40)) (fun _ hk => hk.2) (.string t506)) (fun _ h_ => h_.1))) hb); have n1_ := Aside0.mk (blk_below (g := gb508) (o := .cells #[.slice Ao40 t503.length co40, .string t506] 53 (0, 0)) (by (with_reducible repeat (first | refine blk_drewN ?_ _ | refine blk_drew ?_ | refine blk_alloc ?_ _)); refine blk_put (cs := #[.slice Ao40 t503.length co40, .string (⟨#[]⟩ : ByteArray)]) ?_ 1 _ rfl; (with_reducible repeat (first | refine blk_drewN ?_ _ | refine blk_drew ?_ | refine blk_alloc ?_ _)); refine blk_put (cs := #[.slice none 0 0, .string (⟨#[]⟩ : ByteArray)]) ?_ 0 _ rfl; (with_reducible repeat (first | refine blk_drewN ?_ _ | refine blk_drew ?_ | refine blk_alloc ?_ _)); exact BK508.out) hb); have n2_ := Aside0.mk (below_step bwS hb); clear HO505; clear BK508; clear HB; have HO505 := n0_; have BK508 := n1_; have HB := n2_; clear n0_ n1_ n2_; (try clear hb); (try clear hb2); (try clear hk); (try clear hi)) | ((with_reducible refine gate_dst (N := 3) rfl ?_); (try (refine gate_guard (by rfl) ?_; dsimp only)); refine box_event ?hg (N := 3) ?hd (cs := #[.string (⟨#[]⟩ : ByteArray), .string (⟨#[]⟩ : ByteArray), .string (⟨#[]⟩ : ByteArray)]) (t := 31) ?hr ?_; (case hd => rfl); (case hg => rfl); (case hr => first | (go_simp; done) | (go_simp; rfl)); intro gb513 hg w43 hbox hb; have n0_ := Aside0.mk (Kd.R_below (by (with_reducible repeat (first | apply Kd.R_alloc | apply Kd.R_drewN | apply Kd.R_drew)); exact HO505.out) hb); have n1_ := Aside0.mk (blk_below (g := gb508) (o := .cells #[.slice Ao40 t503.length co40, .string t506] 53 (0, 0)) bk hb); have n2_ := Aside0.mk (below_step bwS hb); have n3_ := Aside0.mk (hbox); have n4_ := Aside0.mk ((by rw [hg]; exact (below_size bwS) : w.heap.size ≤ gb513)); have n5_ := Aside0.mk ((by rw [hg]; exact (below_size bwS) : w.heap.size ≤ gb513)); have n6_ := Aside0.mk ((by rw [hg]; exact Nat.ne_of_lt (blk_lt (g := gb508) (o := .cells #[.slice Ao40 t503.length co40, .string t506] 53 (0, 0)) bk) : gb508 ≠ gb513)); have n7_ := Aside0.mk ((by rw [hg]; exact Nat.ne_of_gt (blk_lt (g := gb508) (o := .cells #[.slice Ao40 t503.length co40, .string t506] 53 (0, 0)) bk) : gb513 ≠ gb508)); clear HO505; clear BK508; clear HB; have HO505 := n0_; have BK508 := n1_; have HB := n2_; have BK513 := n3_; have GW513 := n4_; have GE513 := n5_; have NB508_513 := n6_; have NB513_508 := n7_; clear n0_ n1_ n2_ n3_ n4_ n5_ n6_ n7_; clear hb hbox hg; have hnb44 := NB513_508.out; have hnc44 := NB508_513.out; have hcz45_0 : w43.cell? ⟨gb513, 0, none⟩ = some (.string (⟨#[]⟩ : ByteArray)) := (blk_cell BK513.out 0).trans rfl; have hcz45_1 : w43.cell? ⟨gb513, 1, none⟩ = some (.string (⟨#[]⟩ : ByteArray)) := (blk_cell BK513.out 1).trans rfl; have hcz45_2 : w43.cell? ⟨gb513, 2, none⟩ = some (.string (⟨#[]⟩ : ByteArray)) := (blk_cell BK513.out 2).trans rfl; have hfz45_0 := blk_frozen BK513.out 0; have hfz45_1 := blk_frozen BK513.out 1; have hfz45_2 := blk_frozen BK513.out 2; have hcz46_0 : w43.cell? ⟨gb508, 0, none⟩ = some (.slice Ao40 t503.length co40) := (blk_cell BK508.out 0).trans rfl; have hcz46_1 : w43.cell? ⟨gb508, 1, none⟩ = some (.string t506) := (blk_cell BK508.out 1).trans rfl; have hfz46_0 := blk_frozen BK508.out 0; have hfz46_1 := blk_frozen BK508.out 1) | ((with_reducible refine gate_callee (f := 23) rfl ?_); refine goesL_ (some 16) rfl rfl Tryd.func23 (by kernel_rfl) rfl #[.agg #[.slice Ao40 t503.length co40, .string t506]] rfl am ?_; (with_reducible refine (msg_Message_Lines.calls (hG := by first | exact hG | exact Glob.below hG (by first | exact HB.out | (repeat (first | (with_reducible first | exact HB.out | apply below_alloc | apply pw_below_drewN | apply below_drew1 | refine below_set ?_ GE508.out | refine below_set ?_ GE513.out) | exact HB.out))) | exact Glob.drawn hG (by repeat (first | exact Drawn0.refl _ | apply Drawn0.step))) k _ _ t503 t506 t514 _ ?side1 ?side2 A3.out).mono ?_); (case side1 => refine (Kd.R_reads' (e := 126) (base := w.heap.size) (ok := fun k_ => True) (n := t503.length) (c := co40) ?_).2.2; exact (by (with_reducible repeat (first | apply Kd.R_alloc | apply Kd.R_drewN | apply Kd.R_drew)); exact (Kd.R_mono (Kd.R_far (p := ⟨gb513, 2, none⟩) (Kd.R_far (p := ⟨gb513, 1, none⟩) (Kd.R_far (p := ⟨gb513, 0, none⟩) (Kd.R_types HO505.out BK513.out (by decide)) (fun _ hk => hk.2) (.string t509)) (fun _ hk => hk.2) (.string t510)) (fun _ hk => hk.2) (.string t511)) (fun _ h_ => h_.1)))); (case side2 => exact (Kd.R_reads' HO505.out).2.1); rintro e w47 ⟨v515, rfl, ho0, hb⟩; refine ⟨_, rfl, ?_⟩; have n0_ := Aside0.mk (Kd.R_below (by (with_reducible repeat (first | apply Kd.R_alloc | apply Kd.R_drewN | apply Kd.R_drew)); exact (Kd.R_mono (Kd.R_far (p := ⟨gb513, 2, none⟩) (Kd.R_far (p := ⟨gb513, 1, none⟩) (Kd.R_far (p := ⟨gb513, 0, none⟩) (Kd.R_types HO505.out BK513.out (by decide)) (fun _ hk => hk.2) (.string t509)) (fun _ hk => hk.2) (.string t510)) (fun _ hk => hk.2) (.string t511)) (fun _ h_ => h_.1))) hb); have n1_ := Aside0.mk (Kd.R_lower ho0 (below_size bwS)); have n2_ := Aside0.mk (blk_below (g := gb508) (o := .cells #[.slice Ao40 t503.length co40, .string t506] 53 (0, 0)) (by (with_reducible repeat (first | refine blk_drewN ?_ _ | refine blk_drew ?_ | refine blk_alloc ?_ _)); refine blk_far ?_ NB508_513.out _; (with_reducible repeat (first | refine blk_drewN ?_ _ | refine blk_drew ?_ | refine blk_alloc ?_ _)); refine blk_far ?_ NB508_513.out _; (with_reducible repeat (first | refine blk_drewN ?_ _ | refine blk_drew ?_ | refine blk_alloc ?_ _)); refine blk_far ?_ NB508_513.out _; (with_reducible repeat (first | refine blk_drewN ?_ _ | refine blk_drew ?_ | refine blk_alloc ?_ _)); exact BK508.out) hb); have n3_ := Aside0.mk (blk_below (g := gb513) (o := .cells #[.string t509, .string t510, .string t511] 31 (0, 0)) (by (with_reducible repeat (first | refine blk_drewN ?_ _ | refine blk_drew ?_ | refine blk_alloc ?_ _)); refine blk_put (cs := #[.string t509, .string t510, .string (⟨#[]⟩ : ByteArray)]) ?_ 2 _ rfl; (with_reducible repeat (first | refine blk_drewN ?_ _ | refine blk_drew ?_ | refine blk_alloc ?_ _)); refine blk_put (cs := #[.string t509, .string (⟨#[]⟩ : ByteArray), .string (⟨#[]⟩ : ByteArray)]) ?_ 1 _ rfl; (with_reducible repeat (first | refine blk_drewN ?_ _ | refine blk_drew ?_ | refine blk_alloc ?_ _)); refine blk_put (cs := #[.string (⟨#[]⟩ : ByteArray), .string (⟨#[]⟩ : ByteArray), .string (⟨#[]⟩ : ByteArray)]) ?_ 0 _ rfl; (with_reducible repeat (first | refine blk_drewN ?_ _ | refine blk_drew ?_ | refine blk_alloc ?_ _)); exact BK513.out) hb); have n4_ := Aside0.mk (below_step bwS hb); clear HO505; clear BK508; clear BK513; clear HB; have HO505 := n0_; have HO516 := n1_; have BK508 := n2_; have BK513 := n3_; have HB := n4_; clear n0_ n1_ n2_ n3_ n4_; (try clear hb); (try clear hb2); (try clear hk); (try clear hi); (try clear ho0); have hcz48_0 : w47.cell? ⟨gb513, 0, none⟩ = some (.string t509) := (blk_cell BK513.out 0).trans rfl; have hcz48_1 : w47.cell? ⟨gb513, 1, none⟩ = some (.string t510) := (blk_cell BK513.out 1).trans rfl; have hcz48_2 : w47.cell? ⟨gb513, 2, none⟩ = some (.string t511) := (blk_cell BK513.out 2).trans rfl; have hfz48_0 := blk_frozen BK513.out 0; have hfz48_1 := blk_frozen BK513.out 1; have hfz48_2 := blk_frozen BK513.out 2; obtain ⟨Ao49, co49, eo49⟩ := Kd.R_slice HO516.out; subst eo49))
      go_ret
      exact ⟨by first | rfl | (simp [errW_none, errW_some] <;> rfl) | (simp [*, errW_none, errW_some] <;> rfl), bwS⟩
    ·rw [if_neg c7] at H
     have c7b0 : (t510.toList == ([97] : List UInt8)) = false := beq_eq_false_iff_ne.mpr c7
     have c7b1 : (t510.toList != ([97] : List UInt8)) = true := bne_iff_ne.mpr c7
     obtain rfl := Option.some.inj H
     go_enter Tryd.func22, Tryd.ntmps22
     go_wp2_with (first | ((with_reducible refine gate_callee (f := 42) rfl ?_); refine goesL_ (some 7) rfl rfl Tryd.func42 (by kernel_rfl) rfl #[.string (⟨#[70, 114, 111, 109, 58, 32, 65, 110, 110, 32, 60, 97, 64, 98, 62, 13, 10, 13, 10, 104, 105, 13, 10]⟩ : ByteArray)] rfl am ?_; (with_reducible refine (msg_Parse.calls (hG := by first | exact hG | exact Glob.below hG (by first | exact HB.out | (repeat (first | (with_reducible first | exact HB.out | apply below_alloc | apply pw_below_drewN | apply below_drew1 | refine below_set ?_ GE508.out | refine below_set ?_ GE513.out) | exact HB.out))) | exact Glob.drawn hG (by repeat (first | exact Drawn0.refl _ | apply Drawn0.step))) k (⟨#[70, 114, 111, 109, 58, 32, 65, 110, 110, 32, 60, 97, 64, 98, 62, 13, 10, 13, 10, 104, 105, 13, 10]⟩ : ByteArray) t503 t506 t507 _ A1.out).mono ?_); rintro e w50 ⟨v504, rfl, ho0, hb⟩; refine ⟨_, rfl, ?_⟩; have n0_ := Aside0.mk (Kd.R_lower ho0 (below_size bw)); have n1_ := Aside0.mk (below_step bw hb); clear HB; have HO505 := n0_; have HB := n1_; clear n0_ n1_; (try clear hb); (try clear hb2); (try clear hk); (try clear hi); (try clear ho0)) | ((with_reducible refine gate_dst (N := 1) rfl ?_); (try (refine gate_guard (by rfl) ?_; dsimp only)); refine box_event ?hg (N := 1) ?hd (cs := #[.slice none 0 0, .string (⟨#[]⟩ : ByteArray)]) (t := 53) ?hr ?_; (case hd => rfl); (case hg => rfl); (case hr => first | (go_simp; done) | (go_simp; rfl)); intro gb508 hg w51 hbox hb; have n0_ := Aside0.mk (Kd.R_below (by (with_reducible repeat (first | apply Kd.R_alloc | apply Kd.R_drewN | apply Kd.R_drew)); exact HO505.out) hb); have n1_ := Aside0.mk (below_step bw hb); have n2_ := Aside0.mk (hbox); have n3_ := Aside0.mk ((by rw [hg]; exact (below_size bw) : w.heap.size ≤ gb508)); have n4_ := Aside0.mk ((by rw [hg]; exact (below_size bw) : w.heap.size ≤ gb508)); clear HO505; clear HB; have HO505 := n0_; have HB := n1_; have BK508 := n2_; have GW508 := n3_; have GE508 := n4_; clear n0_ n1_ n2_ n3_ n4_; clear hb hbox hg; obtain ⟨Ao52, co52, eo52⟩ := Kd.R_slice HO505.out; subst eo52; have hcz53_0 : w51.cell? ⟨gb508, 0, none⟩ = some (.slice none 0 0) := (blk_cell BK508.out 0).trans rfl; have hcz53_1 : w51.cell? ⟨gb508, 1, none⟩ = some (.string (⟨#[]⟩ : ByteArray)) := (blk_cell BK508.out 1).trans rfl; have hfz53_0 := blk_frozen BK508.out 0; have hfz53_1 := blk_frozen BK508.out 1) | ((with_reducible refine gate_callee (f := 43) rfl ?_); refine goesL_ (some 12) rfl rfl Tryd.func43 (by kernel_rfl) rfl #[.agg #[.slice Ao52 t503.length co52, .string t506]] rfl am ?_; (with_reducible refine (msg_Message_From.calls (hG := by first | exact hG | exact Glob.below hG (by first | exact HB.out | (repeat (first | (with_reducible first | exact HB.out | apply below_alloc | apply pw_below_drewN | apply below_drew1 | refine below_set ?_ GE508.out | refine below_set ?_ GE513.out) | exact HB.out))) | exact Glob.drawn hG (by repeat (first | exact Drawn0.refl _ | apply Drawn0.step))) k _ _ t503 t506 t509 t510 t511 t512 _ ?side1 ?side2 A2.out).mono ?_); (case side1 => refine (Kd.R_reads' (e := 126) (base := w.heap.size) (ok := fun k_ => True) (n := t503.length) (c := co52) ?_).2.2; exact (by (with_reducible repeat (first | apply Kd.R_alloc | apply Kd.R_drewN | apply Kd.R_drew)); exact (Kd.R_mono (Kd.R_far (p := ⟨gb508, 1, none⟩) (Kd.R_far (p := ⟨gb508, 0, none⟩) (Kd.R_types HO505.out BK508.out (by decide)) (fun _ hk => hk.2) (.slice Ao52 t503.length co52)) (fun _ hk => hk.2) (.string t506)) (fun _ h_ => h_.1)))); (case side2 => exact (Kd.R_reads' HO505.out).2.1); rintro e w54 ⟨rfl, hb⟩; refine ⟨_, rfl, ?_⟩; have n0_ := Aside0.mk (Kd.R_below (by (with_reducible repeat (first | apply Kd.R_alloc | apply Kd.R_drewN | apply Kd.R_drew)); exact (Kd.R_mono (Kd.R_far (p := ⟨gb508, 1, none⟩) (Kd.R_far (p := ⟨gb508, 0, none⟩) (Kd.R_types HO505.out BK508.out (by decide)) (fun _ hk => hk.2) (.slice Ao52 t503.length co52)) (fun _ hk => hk.2) (.string t506)) (fun _ h_ => h_.1))) hb); have n1_ := Aside0.mk (blk_below (g := gb508) (o := .cells #[.slice Ao52 t503.length co52, .string t506] 53 (0, 0)) (by (with_reducible repeat (first | refine blk_drewN ?_ _ | refine blk_drew ?_ | refine blk_alloc ?_ _)); refine blk_put (cs := #[.slice Ao52 t503.length co52, .string (⟨#[]⟩ : ByteArray)]) ?_ 1 _ rfl; (with_reducible repeat (first | refine blk_drewN ?_ _ | refine blk_drew ?_ | refine blk_alloc ?_ _)); refine blk_put (cs := #[.slice none 0 0, .string (⟨#[]⟩ : ByteArray)]) ?_ 0 _ rfl; (with_reducible repeat (first | refine blk_drewN ?_ _ | refine blk_drew ?_ | refine blk_alloc ?_ _)); exact BK508.out) hb); have n2_ := Aside0.mk (below_step bwS hb); clear HO505; clear BK508; clear HB; have HO505 := n0_; have BK508 := n1_; have HB := n2_; clear n0_ n1_ n2_; (try clear hb); (try clear hb2); (try clear hk); (try clear hi)) | ((with_reducible refine gate_dst (N := 3) rfl ?_); (try (refine gate_guard (by rfl) ?_; dsimp only)); refine box_event ?hg (N := 3) ?hd (cs := #[.string (⟨#[]⟩ : ByteArray), .string (⟨#[]⟩ : ByteArray), .string (⟨#[]⟩ : ByteArray)]) (t := 31) ?hr ?_; (case hd => rfl); (case hg => rfl); (case hr => first | (go_simp; done) | (go_simp; rfl)); intro gb513 hg w55 hbox hb; have n0_ := Aside0.mk (Kd.R_below (by (with_reducible repeat (first | apply Kd.R_alloc | apply Kd.R_drewN | apply Kd.R_drew)); exact HO505.out) hb); have n1_ := Aside0.mk (blk_below (g := gb508) (o := .cells #[.slice Ao52 t503.length co52, .string t506] 53 (0, 0)) bk hb); have n2_ := Aside0.mk (below_step bwS hb); have n3_ := Aside0.mk (hbox); have n4_ := Aside0.mk ((by rw [hg]; exact (below_size bwS) : w.heap.size ≤ gb513)); have n5_ := Aside0.mk ((by rw [hg]; exact (below_size bwS) : w.heap.size ≤ gb513)); have n6_ := Aside0.mk ((by rw [hg]; exact Nat.ne_of_lt (blk_lt (g := gb508) (o := .cells #[.slice Ao52 t503.length co52, .string t506] 53 (0, 0)) bk) : gb508 ≠ gb513)); have n7_ := Aside0.mk ((by rw [hg]; exact Nat.ne_of_gt (blk_lt (g := gb508) (o := .cells #[.slice Ao52 t503.length co52, .string t506] 53 (0, 0)) bk) : gb513 ≠ gb508)); clear HO505; clear BK508; clear HB; have HO505 := n0_; have BK508 := n1_; have HB := n2_; have BK513 := n3_; have GW513 := n4_; have GE513 := n5_; have NB508_513 := n6_; have NB513_508 := n7_; clear n0_ n1_ n2_ n3_ n4_ n5_ n6_ n7_; clear hb hbox hg; have hnb56 := NB513_508.out; have hnc56 := NB508_513.out; have hcz57_0 : w55.cell? ⟨gb513, 0, none⟩ = some (.string (⟨#[]⟩ : ByteArray)) := (blk_cell BK513.out 0).trans rfl; have hcz57_1 : w55.cell? ⟨gb513, 1, none⟩ = some (.string (⟨#[]⟩ : ByteArray)) := (blk_cell BK513.out 1).trans rfl; have hcz57_2 : w55.cell? ⟨gb513, 2, none⟩ = some (.string (⟨#[]⟩ : ByteArray)) := (blk_cell BK513.out 2).trans rfl; have hfz57_0 := blk_frozen BK513.out 0; have hfz57_1 := blk_frozen BK513.out 1; have hfz57_2 := blk_frozen BK513.out 2; have hcz58_0 : w55.cell? ⟨gb508, 0, none⟩ = some (.slice Ao52 t503.length co52) := (blk_cell BK508.out 0).trans rfl; have hcz58_1 : w55.cell? ⟨gb508, 1, none⟩ = some (.string t506) := (blk_cell BK508.out 1).trans rfl; have hfz58_0 := blk_frozen BK508.out 0; have hfz58_1 := blk_frozen BK508.out 1) | ((with_reducible refine gate_callee (f := 23) rfl ?_); refine goesL_ (some 16) rfl rfl Tryd.func23 (by kernel_rfl) rfl #[.agg #[.slice Ao52 t503.length co52, .string t506]] rfl am ?_; (with_reducible refine (msg_Message_Lines.calls (hG := by first | exact hG | exact Glob.below hG (by first | exact HB.out | (repeat (first | (with_reducible first | exact HB.out | apply below_alloc | apply pw_below_drewN | apply below_drew1 | refine below_set ?_ GE508.out | refine below_set ?_ GE513.out) | exact HB.out))) | exact Glob.drawn hG (by repeat (first | exact Drawn0.refl _ | apply Drawn0.step))) k _ _ t503 t506 t514 _ ?side1 ?side2 A3.out).mono ?_); (case side1 => refine (Kd.R_reads' (e := 126) (base := w.heap.size) (ok := fun k_ => True) (n := t503.length) (c := co52) ?_).2.2; exact (by (with_reducible repeat (first | apply Kd.R_alloc | apply Kd.R_drewN | apply Kd.R_drew)); exact (Kd.R_mono (Kd.R_far (p := ⟨gb513, 2, none⟩) (Kd.R_far (p := ⟨gb513, 1, none⟩) (Kd.R_far (p := ⟨gb513, 0, none⟩) (Kd.R_types HO505.out BK513.out (by decide)) (fun _ hk => hk.2) (.string t509)) (fun _ hk => hk.2) (.string t510)) (fun _ hk => hk.2) (.string t511)) (fun _ h_ => h_.1)))); (case side2 => exact (Kd.R_reads' HO505.out).2.1); rintro e w59 ⟨v515, rfl, ho0, hb⟩; refine ⟨_, rfl, ?_⟩; have n0_ := Aside0.mk (Kd.R_below (by (with_reducible repeat (first | apply Kd.R_alloc | apply Kd.R_drewN | apply Kd.R_drew)); exact (Kd.R_mono (Kd.R_far (p := ⟨gb513, 2, none⟩) (Kd.R_far (p := ⟨gb513, 1, none⟩) (Kd.R_far (p := ⟨gb513, 0, none⟩) (Kd.R_types HO505.out BK513.out (by decide)) (fun _ hk => hk.2) (.string t509)) (fun _ hk => hk.2) (.string t510)) (fun _ hk => hk.2) (.string t511)) (fun _ h_ => h_.1))) hb); have n1_ := Aside0.mk (Kd.R_lower ho0 (below_size bwS)); have n2_ := Aside0.mk (blk_below (g := gb508) (o := .cells #[.slice Ao52 t503.length co52, .string t506] 53 (0, 0)) (by (with_reducible repeat (first | refine blk_drewN ?_ _ | refine blk_drew ?_ | refine blk_alloc ?_ _)); refine blk_far ?_ NB508_513.out _; (with_reducible repeat (first | refine blk_drewN ?_ _ | refine blk_drew ?_ | refine blk_alloc ?_ _)); refine blk_far ?_ NB508_513.out _; (with_reducible repeat (first | refine blk_drewN ?_ _ | refine blk_drew ?_ | refine blk_alloc ?_ _)); refine blk_far ?_ NB508_513.out _; (with_reducible repeat (first | refine blk_drewN ?_ _ | refine blk_drew ?_ | refine blk_alloc ?_ _)); exact BK508.out) hb); have n3_ := Aside0.mk (blk_below (g := gb513) (o := .cells #[.string t509, .string t510, .string t511] 31 (0, 0)) (by (with_reducible repeat (first | refine blk_drewN ?_ _ | refine blk_drew ?_ | refine blk_alloc ?_ _)); refine blk_put (cs := #[.string t509, .string t510, .string (⟨#[]⟩ : ByteArray)]) ?_ 2 _ rfl; (with_reducible repeat (first | refine blk_drewN ?_ _ | refine blk_drew ?_ | refine blk_alloc ?_ _)); refine blk_put (cs := #[.string t509, .string (⟨#[]⟩ : ByteArray), .string (⟨#[]⟩ : ByteArray)]) ?_ 1 _ rfl; (with_reducible repeat (first | refine blk_drewN ?_ _ | refine blk_drew ?_ | refine blk_alloc ?_ _)); refine blk_put (cs := #[.string (⟨#[]⟩ : ByteArray), .string (⟨#[]⟩ : ByteArray), .string (⟨#[]⟩ : ByteArray)]) ?_ 0 _ rfl; (with_reducible repeat (first | refine blk_drewN ?_ _ | refine blk_drew ?_ | refine blk_alloc ?_ _)); exact BK513.out) hb); have n4_ := Aside0.mk (below_step bwS hb); clear HO505; clear BK508; clear BK513; clear HB; have HO505 := n0_; have HO516 := n1_; have BK508 := n2_; have BK513 := n3_; have HB := n4_; clear n0_ n1_ n2_ n3_ n4_; (try clear hb); (try clear hb2); (try clear hk); (try clear hi); (try clear ho0); have hcz60_0 : w59.cell? ⟨gb513, 0, none⟩ = some (.string t509) := (blk_cell BK513.out 0).trans rfl; have hcz60_1 : w59.cell? ⟨gb513, 1, none⟩ = some (.string t510) := (blk_cell BK513.out 1).trans rfl; have hcz60_2 : w59.cell? ⟨gb513, 2, none⟩ = some (.string t511) := (blk_cell BK513.out 2).trans rfl; have hfz60_0 := blk_frozen BK513.out 0; have hfz60_1 := blk_frozen BK513.out 1; have hfz60_2 := blk_frozen BK513.out 2))
     go_ret
     exact ⟨by first | rfl | (simp [errW_none, errW_some] <;> rfl) | (simp [*, errW_none, errW_some] <;> rfl), bwS⟩
   ·rw [if_neg c6] at H
    have c6b0 : (t509.toList == ([65, 110, 110] : List UInt8)) = false := beq_eq_false_iff_ne.mpr c6
    have c6b1 : (t509.toList != ([65, 110, 110] : List UInt8)) = true := bne_iff_ne.mpr c6
    obtain rfl := Option.some.inj H
    go_enter Tryd.func22, Tryd.ntmps22
    go_wp2_with (first | ((with_reducible refine gate_callee (f := 42) rfl ?_); refine goesL_ (some 7) rfl rfl Tryd.func42 (by kernel_rfl) rfl #[.string (⟨#[70, 114, 111, 109, 58, 32, 65, 110, 110, 32, 60, 97, 64, 98, 62, 13, 10, 13, 10, 104, 105, 13, 10]⟩ : ByteArray)] rfl am ?_; (with_reducible refine (msg_Parse.calls (hG := by first | exact hG | exact Glob.below hG (by first | exact HB.out | (repeat (first | (with_reducible first | exact HB.out | apply below_alloc | apply pw_below_drewN | apply below_drew1 | refine below_set ?_ GE508.out | refine below_set ?_ GE513.out) | exact HB.out))) | exact Glob.drawn hG (by repeat (first | exact Drawn0.refl _ | apply Drawn0.step))) k (⟨#[70, 114, 111, 109, 58, 32, 65, 110, 110, 32, 60, 97, 64, 98, 62, 13, 10, 13, 10, 104, 105, 13, 10]⟩ : ByteArray) t503 t506 t507 _ A1.out).mono ?_); rintro e w61 ⟨v504, rfl, ho0, hb⟩; refine ⟨_, rfl, ?_⟩; have n0_ := Aside0.mk (Kd.R_lower ho0 (below_size bw)); have n1_ := Aside0.mk (below_step bw hb); clear HB; have HO505 := n0_; have HB := n1_; clear n0_ n1_; (try clear hb); (try clear hb2); (try clear hk); (try clear hi); (try clear ho0)) | ((with_reducible refine gate_dst (N := 1) rfl ?_); (try (refine gate_guard (by rfl) ?_; dsimp only)); refine box_event ?hg (N := 1) ?hd (cs := #[.slice none 0 0, .string (⟨#[]⟩ : ByteArray)]) (t := 53) ?hr ?_; (case hd => rfl); (case hg => rfl); (case hr => first | (go_simp; done) | (go_simp; rfl)); intro gb508 hg w62 hbox hb; have n0_ := Aside0.mk (Kd.R_below (by (with_reducible repeat (first | apply Kd.R_alloc | apply Kd.R_drewN | apply Kd.R_drew)); exact HO505.out) hb); have n1_ := Aside0.mk (below_step bw hb); have n2_ := Aside0.mk (hbox); have n3_ := Aside0.mk ((by rw [hg]; exact (below_size bw) : w.heap.size ≤ gb508)); have n4_ := Aside0.mk ((by rw [hg]; exact (below_size bw) : w.heap.size ≤ gb508)); clear HO505; clear HB; have HO505 := n0_; have HB := n1_; have BK508 := n2_; have GW508 := n3_; have GE508 := n4_; clear n0_ n1_ n2_ n3_ n4_; clear hb hbox hg; obtain ⟨Ao63, co63, eo63⟩ := Kd.R_slice HO505.out; subst eo63; have hcz64_0 : w62.cell? ⟨gb508, 0, none⟩ = some (.slice none 0 0) := (blk_cell BK508.out 0).trans rfl; have hcz64_1 : w62.cell? ⟨gb508, 1, none⟩ = some (.string (⟨#[]⟩ : ByteArray)) := (blk_cell BK508.out 1).trans rfl; have hfz64_0 := blk_frozen BK508.out 0; have hfz64_1 := blk_frozen BK508.out 1) | ((with_reducible refine gate_callee (f := 43) rfl ?_); refine goesL_ (some 12) rfl rfl Tryd.func43 (by kernel_rfl) rfl #[.agg #[.slice Ao63 t503.length co63, .string t506]] rfl am ?_; (with_reducible refine (msg_Message_From.calls (hG := by first | exact hG | exact Glob.below hG (by first | exact HB.out | (repeat (first | (with_reducible first | exact HB.out | apply below_alloc | apply pw_below_drewN | apply below_drew1 | refine below_set ?_ GE508.out | refine below_set ?_ GE513.out) | exact HB.out))) | exact Glob.drawn hG (by repeat (first | exact Drawn0.refl _ | apply Drawn0.step))) k _ _ t503 t506 t509 t510 t511 t512 _ ?side1 ?side2 A2.out).mono ?_); (case side1 => refine (Kd.R_reads' (e := 126) (base := w.heap.size) (ok := fun k_ => True) (n := t503.length) (c := co63) ?_).2.2; exact (by (with_reducible repeat (first | apply Kd.R_alloc | apply Kd.R_drewN | apply Kd.R_drew)); exact (Kd.R_mono (Kd.R_far (p := ⟨gb508, 1, none⟩) (Kd.R_far (p := ⟨gb508, 0, none⟩) (Kd.R_types HO505.out BK508.out (by decide)) (fun _ hk => hk.2) (.slice Ao63 t503.length co63)) (fun _ hk => hk.2) (.string t506)) (fun _ h_ => h_.1)))); (case side2 => exact (Kd.R_reads' HO505.out).2.1); rintro e w65 ⟨rfl, hb⟩; refine ⟨_, rfl, ?_⟩; have n0_ := Aside0.mk (Kd.R_below (by (with_reducible repeat (first | apply Kd.R_alloc | apply Kd.R_drewN | apply Kd.R_drew)); exact (Kd.R_mono (Kd.R_far (p := ⟨gb508, 1, none⟩) (Kd.R_far (p := ⟨gb508, 0, none⟩) (Kd.R_types HO505.out BK508.out (by decide)) (fun _ hk => hk.2) (.slice Ao63 t503.length co63)) (fun _ hk => hk.2) (.string t506)) (fun _ h_ => h_.1))) hb); have n1_ := Aside0.mk (blk_below (g := gb508) (o := .cells #[.slice Ao63 t503.length co63, .string t506] 53 (0, 0)) (by (with_reducible repeat (first | refine blk_drewN ?_ _ | refine blk_drew ?_ | refine blk_alloc ?_ _)); refine blk_put (cs := #[.slice Ao63 t503.length co63, .string (⟨#[]⟩ : ByteArray)]) ?_ 1 _ rfl; (with_reducible repeat (first | refine blk_drewN ?_ _ | refine blk_drew ?_ | refine blk_alloc ?_ _)); refine blk_put (cs := #[.slice none 0 0, .string (⟨#[]⟩ : ByteArray)]) ?_ 0 _ rfl; (with_reducible repeat (first | refine blk_drewN ?_ _ | refine blk_drew ?_ | refine blk_alloc ?_ _)); exact BK508.out) hb); have n2_ := Aside0.mk (below_step bwS hb); clear HO505; clear BK508; clear HB; have HO505 := n0_; have BK508 := n1_; have HB := n2_; clear n0_ n1_ n2_; (try clear hb); (try clear hb2); (try clear hk); (try clear hi)) | ((with_reducible refine gate_dst (N := 3) rfl ?_); (try (refine gate_guard (by rfl) ?_; dsimp only)); refine box_event ?hg (N := 3) ?hd (cs := #[.string (⟨#[]⟩ : ByteArray), .string (⟨#[]⟩ : ByteArray), .string (⟨#[]⟩ : ByteArray)]) (t := 31) ?hr ?_; (case hd => rfl); (case hg => rfl); (case hr => first | (go_simp; done) | (go_simp; rfl)); intro gb513 hg w66 hbox hb; have n0_ := Aside0.mk (Kd.R_below (by (with_reducible repeat (first | apply Kd.R_alloc | apply Kd.R_drewN | apply Kd.R_drew)); exact HO505.out) hb); have n1_ := Aside0.mk (blk_below (g := gb508) (o := .cells #[.slice Ao63 t503.length co63, .string t506] 53 (0, 0)) bk hb); have n2_ := Aside0.mk (below_step bwS hb); have n3_ := Aside0.mk (hbox); have n4_ := Aside0.mk ((by rw [hg]; exact (below_size bwS) : w.heap.size ≤ gb513)); have n5_ := Aside0.mk ((by rw [hg]; exact (below_size bwS) : w.heap.size ≤ gb513)); have n6_ := Aside0.mk ((by rw [hg]; exact Nat.ne_of_lt (blk_lt (g := gb508) (o := .cells #[.slice Ao63 t503.length co63, .string t506] 53 (0, 0)) bk) : gb508 ≠ gb513)); have n7_ := Aside0.mk ((by rw [hg]; exact Nat.ne_of_gt (blk_lt (g := gb508) (o := .cells #[.slice Ao63 t503.length co63, .string t506] 53 (0, 0)) bk) : gb513 ≠ gb508)); clear HO505; clear BK508; clear HB; have HO505 := n0_; have BK508 := n1_; have HB := n2_; have BK513 := n3_; have GW513 := n4_; have GE513 := n5_; have NB508_513 := n6_; have NB513_508 := n7_; clear n0_ n1_ n2_ n3_ n4_ n5_ n6_ n7_; clear hb hbox hg; have hnb67 := NB513_508.out; have hnc67 := NB508_513.out; have hcz68_0 : w66.cell? ⟨gb513, 0, none⟩ = some (.string (⟨#[]⟩ : ByteArray)) := (blk_cell BK513.out 0).trans rfl; have hcz68_1 : w66.cell? ⟨gb513, 1, none⟩ = some (.string (⟨#[]⟩ : ByteArray)) := (blk_cell BK513.out 1).trans rfl; have hcz68_2 : w66.cell? ⟨gb513, 2, none⟩ = some (.string (⟨#[]⟩ : ByteArray)) := (blk_cell BK513.out 2).trans rfl; have hfz68_0 := blk_frozen BK513.out 0; have hfz68_1 := blk_frozen BK513.out 1; have hfz68_2 := blk_frozen BK513.out 2; have hcz69_0 : w66.cell? ⟨gb508, 0, none⟩ = some (.slice Ao63 t503.length co63) := (blk_cell BK508.out 0).trans rfl; have hcz69_1 : w66.cell? ⟨gb508, 1, none⟩ = some (.string t506) := (blk_cell BK508.out 1).trans rfl; have hfz69_0 := blk_frozen BK508.out 0; have hfz69_1 := blk_frozen BK508.out 1) | ((with_reducible refine gate_callee (f := 23) rfl ?_); refine goesL_ (some 16) rfl rfl Tryd.func23 (by kernel_rfl) rfl #[.agg #[.slice Ao63 t503.length co63, .string t506]] rfl am ?_; (with_reducible refine (msg_Message_Lines.calls (hG := by first | exact hG | exact Glob.below hG (by first | exact HB.out | (repeat (first | (with_reducible first | exact HB.out | apply below_alloc | apply pw_below_drewN | apply below_drew1 | refine below_set ?_ GE508.out | refine below_set ?_ GE513.out) | exact HB.out))) | exact Glob.drawn hG (by repeat (first | exact Drawn0.refl _ | apply Drawn0.step))) k _ _ t503 t506 t514 _ ?side1 ?side2 A3.out).mono ?_); (case side1 => refine (Kd.R_reads' (e := 126) (base := w.heap.size) (ok := fun k_ => True) (n := t503.length) (c := co63) ?_).2.2; exact (by (with_reducible repeat (first | apply Kd.R_alloc | apply Kd.R_drewN | apply Kd.R_drew)); exact (Kd.R_mono (Kd.R_far (p := ⟨gb513, 2, none⟩) (Kd.R_far (p := ⟨gb513, 1, none⟩) (Kd.R_far (p := ⟨gb513, 0, none⟩) (Kd.R_types HO505.out BK513.out (by decide)) (fun _ hk => hk.2) (.string t509)) (fun _ hk => hk.2) (.string t510)) (fun _ hk => hk.2) (.string t511)) (fun _ h_ => h_.1)))); (case side2 => exact (Kd.R_reads' HO505.out).2.1); rintro e w70 ⟨v515, rfl, ho0, hb⟩; refine ⟨_, rfl, ?_⟩; have n0_ := Aside0.mk (Kd.R_below (by (with_reducible repeat (first | apply Kd.R_alloc | apply Kd.R_drewN | apply Kd.R_drew)); exact (Kd.R_mono (Kd.R_far (p := ⟨gb513, 2, none⟩) (Kd.R_far (p := ⟨gb513, 1, none⟩) (Kd.R_far (p := ⟨gb513, 0, none⟩) (Kd.R_types HO505.out BK513.out (by decide)) (fun _ hk => hk.2) (.string t509)) (fun _ hk => hk.2) (.string t510)) (fun _ hk => hk.2) (.string t511)) (fun _ h_ => h_.1))) hb); have n1_ := Aside0.mk (Kd.R_lower ho0 (below_size bwS)); have n2_ := Aside0.mk (blk_below (g := gb508) (o := .cells #[.slice Ao63 t503.length co63, .string t506] 53 (0, 0)) (by (with_reducible repeat (first | refine blk_drewN ?_ _ | refine blk_drew ?_ | refine blk_alloc ?_ _)); refine blk_far ?_ NB508_513.out _; (with_reducible repeat (first | refine blk_drewN ?_ _ | refine blk_drew ?_ | refine blk_alloc ?_ _)); refine blk_far ?_ NB508_513.out _; (with_reducible repeat (first | refine blk_drewN ?_ _ | refine blk_drew ?_ | refine blk_alloc ?_ _)); refine blk_far ?_ NB508_513.out _; (with_reducible repeat (first | refine blk_drewN ?_ _ | refine blk_drew ?_ | refine blk_alloc ?_ _)); exact BK508.out) hb); have n3_ := Aside0.mk (blk_below (g := gb513) (o := .cells #[.string t509, .string t510, .string t511] 31 (0, 0)) (by (with_reducible repeat (first | refine blk_drewN ?_ _ | refine blk_drew ?_ | refine blk_alloc ?_ _)); refine blk_put (cs := #[.string t509, .string t510, .string (⟨#[]⟩ : ByteArray)]) ?_ 2 _ rfl; (with_reducible repeat (first | refine blk_drewN ?_ _ | refine blk_drew ?_ | refine blk_alloc ?_ _)); refine blk_put (cs := #[.string t509, .string (⟨#[]⟩ : ByteArray), .string (⟨#[]⟩ : ByteArray)]) ?_ 1 _ rfl; (with_reducible repeat (first | refine blk_drewN ?_ _ | refine blk_drew ?_ | refine blk_alloc ?_ _)); refine blk_put (cs := #[.string (⟨#[]⟩ : ByteArray), .string (⟨#[]⟩ : ByteArray), .string (⟨#[]⟩ : ByteArray)]) ?_ 0 _ rfl; (with_reducible repeat (first | refine blk_drewN ?_ _ | refine blk_drew ?_ | refine blk_alloc ?_ _)); exact BK513.out) hb); have n4_ := Aside0.mk (below_step bwS hb); clear HO505; clear BK508; clear BK513; clear HB; have HO505 := n0_; have HO516 := n1_; have BK508 := n2_; have BK513 := n3_; have HB := n4_; clear n0_ n1_ n2_ n3_ n4_; (try clear hb); (try clear hb2); (try clear hk); (try clear hi); (try clear ho0); have hcz71_0 : w70.cell? ⟨gb513, 0, none⟩ = some (.string t509) := (blk_cell BK513.out 0).trans rfl; have hcz71_1 : w70.cell? ⟨gb513, 1, none⟩ = some (.string t510) := (blk_cell BK513.out 1).trans rfl; have hcz71_2 : w70.cell? ⟨gb513, 2, none⟩ = some (.string t511) := (blk_cell BK513.out 2).trans rfl; have hfz71_0 := blk_frozen BK513.out 0; have hfz71_1 := blk_frozen BK513.out 1; have hfz71_2 := blk_frozen BK513.out 2))
    go_ret
    exact ⟨by first | rfl | (simp [errW_none, errW_some] <;> rfl) | (simp [*, errW_none, errW_some] <;> rfl), bwS⟩
  ·rw [if_neg c5] at H
   have c5b0 : (t512 == 0) = false := beq_eq_false_iff_ne.mpr c5
   have c5b1 : (t512 != 0) = true := bne_iff_ne.mpr c5
   obtain rfl := Option.some.inj H
   go_enter Tryd.func22, Tryd.ntmps22
   go_wp2_with (first | ((with_reducible refine gate_callee (f := 42) rfl ?_); refine goesL_ (some 7) rfl rfl Tryd.func42 (by kernel_rfl) rfl #[.string (⟨#[70, 114, 111, 109, 58, 32, 65, 110, 110, 32, 60, 97, 64, 98, 62, 13, 10, 13, 10, 104, 105, 13, 10]⟩ : ByteArray)] rfl am ?_; (with_reducible refine (msg_Parse.calls (hG := by first | exact hG | exact Glob.below hG (by first | exact HB.out | (repeat (first | (with_reducible first | exact HB.out | apply below_alloc | apply pw_below_drewN | apply below_drew1 | refine below_set ?_ GE508.out | refine below_set ?_ GE513.out) | exact HB.out))) | exact Glob.drawn hG (by repeat (first | exact Drawn0.refl _ | apply Drawn0.step))) k (⟨#[70, 114, 111, 109, 58, 32, 65, 110, 110, 32, 60, 97, 64, 98, 62, 13, 10, 13, 10, 104, 105, 13, 10]⟩ : ByteArray) t503 t506 t507 _ A1.out).mono ?_); rintro e w72 ⟨v504, rfl, ho0, hb⟩; refine ⟨_, rfl, ?_⟩; have n0_ := Aside0.mk (Kd.R_lower ho0 (below_size bw)); have n1_ := Aside0.mk (below_step bw hb); clear HB; have HO505 := n0_; have HB := n1_; clear n0_ n1_; (try clear hb); (try clear hb2); (try clear hk); (try clear hi); (try clear ho0)) | ((with_reducible refine gate_dst (N := 1) rfl ?_); (try (refine gate_guard (by rfl) ?_; dsimp only)); refine box_event ?hg (N := 1) ?hd (cs := #[.slice none 0 0, .string (⟨#[]⟩ : ByteArray)]) (t := 53) ?hr ?_; (case hd => rfl); (case hg => rfl); (case hr => first | (go_simp; done) | (go_simp; rfl)); intro gb508 hg w73 hbox hb; have n0_ := Aside0.mk (Kd.R_below (by (with_reducible repeat (first | apply Kd.R_alloc | apply Kd.R_drewN | apply Kd.R_drew)); exact HO505.out) hb); have n1_ := Aside0.mk (below_step bw hb); have n2_ := Aside0.mk (hbox); have n3_ := Aside0.mk ((by rw [hg]; exact (below_size bw) : w.heap.size ≤ gb508)); have n4_ := Aside0.mk ((by rw [hg]; exact (below_size bw) : w.heap.size ≤ gb508)); clear HO505; clear HB; have HO505 := n0_; have HB := n1_; have BK508 := n2_; have GW508 := n3_; have GE508 := n4_; clear n0_ n1_ n2_ n3_ n4_; clear hb hbox hg; obtain ⟨Ao74, co74, eo74⟩ := Kd.R_slice HO505.out; subst eo74; have hcz75_0 : w73.cell? ⟨gb508, 0, none⟩ = some (.slice none 0 0) := (blk_cell BK508.out 0).trans rfl; have hcz75_1 : w73.cell? ⟨gb508, 1, none⟩ = some (.string (⟨#[]⟩ : ByteArray)) := (blk_cell BK508.out 1).trans rfl; have hfz75_0 := blk_frozen BK508.out 0; have hfz75_1 := blk_frozen BK508.out 1) | ((with_reducible refine gate_callee (f := 43) rfl ?_); refine goesL_ (some 12) rfl rfl Tryd.func43 (by kernel_rfl) rfl #[.agg #[.slice Ao74 t503.length co74, .string t506]] rfl am ?_; (with_reducible refine (msg_Message_From.calls (hG := by first | exact hG | exact Glob.below hG (by first | exact HB.out | (repeat (first | (with_reducible first | exact HB.out | apply below_alloc | apply pw_below_drewN | apply below_drew1 | refine below_set ?_ GE508.out | refine below_set ?_ GE513.out) | exact HB.out))) | exact Glob.drawn hG (by repeat (first | exact Drawn0.refl _ | apply Drawn0.step))) k _ _ t503 t506 t509 t510 t511 t512 _ ?side1 ?side2 A2.out).mono ?_); (case side1 => refine (Kd.R_reads' (e := 126) (base := w.heap.size) (ok := fun k_ => True) (n := t503.length) (c := co74) ?_).2.2; exact (by (with_reducible repeat (first | apply Kd.R_alloc | apply Kd.R_drewN | apply Kd.R_drew)); exact (Kd.R_mono (Kd.R_far (p := ⟨gb508, 1, none⟩) (Kd.R_far (p := ⟨gb508, 0, none⟩) (Kd.R_types HO505.out BK508.out (by decide)) (fun _ hk => hk.2) (.slice Ao74 t503.length co74)) (fun _ hk => hk.2) (.string t506)) (fun _ h_ => h_.1)))); (case side2 => exact (Kd.R_reads' HO505.out).2.1); rintro e w76 ⟨rfl, hb⟩; refine ⟨_, rfl, ?_⟩; have n0_ := Aside0.mk (Kd.R_below (by (with_reducible repeat (first | apply Kd.R_alloc | apply Kd.R_drewN | apply Kd.R_drew)); exact (Kd.R_mono (Kd.R_far (p := ⟨gb508, 1, none⟩) (Kd.R_far (p := ⟨gb508, 0, none⟩) (Kd.R_types HO505.out BK508.out (by decide)) (fun _ hk => hk.2) (.slice Ao74 t503.length co74)) (fun _ hk => hk.2) (.string t506)) (fun _ h_ => h_.1))) hb); have n1_ := Aside0.mk (blk_below (g := gb508) (o := .cells #[.slice Ao74 t503.length co74, .string t506] 53 (0, 0)) (by (with_reducible repeat (first | refine blk_drewN ?_ _ | refine blk_drew ?_ | refine blk_alloc ?_ _)); refine blk_put (cs := #[.slice Ao74 t503.length co74, .string (⟨#[]⟩ : ByteArray)]) ?_ 1 _ rfl; (with_reducible repeat (first | refine blk_drewN ?_ _ | refine blk_drew ?_ | refine blk_alloc ?_ _)); refine blk_put (cs := #[.slice none 0 0, .string (⟨#[]⟩ : ByteArray)]) ?_ 0 _ rfl; (with_reducible repeat (first | refine blk_drewN ?_ _ | refine blk_drew ?_ | refine blk_alloc ?_ _)); exact BK508.out) hb); have n2_ := Aside0.mk (below_step bwS hb); clear HO505; clear BK508; clear HB; have HO505 := n0_; have BK508 := n1_; have HB := n2_; clear n0_ n1_ n2_; (try clear hb); (try clear hb2); (try clear hk); (try clear hi)) | ((with_reducible refine gate_dst (N := 3) rfl ?_); (try (refine gate_guard (by rfl) ?_; dsimp only)); refine box_event ?hg (N := 3) ?hd (cs := #[.string (⟨#[]⟩ : ByteArray), .string (⟨#[]⟩ : ByteArray), .string (⟨#[]⟩ : ByteArray)]) (t := 31) ?hr ?_; (case hd => rfl); (case hg => rfl); (case hr => first | (go_simp; done) | (go_simp; rfl)); intro gb513 hg w77 hbox hb; have n0_ := Aside0.mk (Kd.R_below (by (with_reducible repeat (first | apply Kd.R_alloc | apply Kd.R_drewN | apply Kd.R_drew)); exact HO505.out) hb); have n1_ := Aside0.mk (blk_below (g := gb508) (o := .cells #[.slice Ao74 t503.length co74, .string t506] 53 (0, 0)) bk hb); have n2_ := Aside0.mk (below_step bwS hb); have n3_ := Aside0.mk (hbox); have n4_ := Aside0.mk ((by rw [hg]; exact (below_size bwS) : w.heap.size ≤ gb513)); have n5_ := Aside0.mk ((by rw [hg]; exact (below_size bwS) : w.heap.size ≤ gb513)); have n6_ := Aside0.mk ((by rw [hg]; exact Nat.ne_of_lt (blk_lt (g := gb508) (o := .cells #[.slice Ao74 t503.length co74, .string t506] 53 (0, 0)) bk) : gb508 ≠ gb513)); have n7_ := Aside0.mk ((by rw [hg]; exact Nat.ne_of_gt (blk_lt (g := gb508) (o := .cells #[.slice Ao74 t503.length co74, .string t506] 53 (0, 0)) bk) : gb513 ≠ gb508)); clear HO505; clear BK508; clear HB; have HO505 := n0_; have BK508 := n1_; have HB := n2_; have BK513 := n3_; have GW513 := n4_; have GE513 := n5_; have NB508_513 := n6_; have NB513_508 := n7_; clear n0_ n1_ n2_ n3_ n4_ n5_ n6_ n7_; clear hb hbox hg; have hnb78 := NB513_508.out; have hnc78 := NB508_513.out; have hcz79_0 : w77.cell? ⟨gb513, 0, none⟩ = some (.string (⟨#[]⟩ : ByteArray)) := (blk_cell BK513.out 0).trans rfl; have hcz79_1 : w77.cell? ⟨gb513, 1, none⟩ = some (.string (⟨#[]⟩ : ByteArray)) := (blk_cell BK513.out 1).trans rfl; have hcz79_2 : w77.cell? ⟨gb513, 2, none⟩ = some (.string (⟨#[]⟩ : ByteArray)) := (blk_cell BK513.out 2).trans rfl; have hfz79_0 := blk_frozen BK513.out 0; have hfz79_1 := blk_frozen BK513.out 1; have hfz79_2 := blk_frozen BK513.out 2; have hcz80_0 : w77.cell? ⟨gb508, 0, none⟩ = some (.slice Ao74 t503.length co74) := (blk_cell BK508.out 0).trans rfl; have hcz80_1 : w77.cell? ⟨gb508, 1, none⟩ = some (.string t506) := (blk_cell BK508.out 1).trans rfl; have hfz80_0 := blk_frozen BK508.out 0; have hfz80_1 := blk_frozen BK508.out 1) | ((with_reducible refine gate_callee (f := 23) rfl ?_); refine goesL_ (some 16) rfl rfl Tryd.func23 (by kernel_rfl) rfl #[.agg #[.slice Ao74 t503.length co74, .string t506]] rfl am ?_; (with_reducible refine (msg_Message_Lines.calls (hG := by first | exact hG | exact Glob.below hG (by first | exact HB.out | (repeat (first | (with_reducible first | exact HB.out | apply below_alloc | apply pw_below_drewN | apply below_drew1 | refine below_set ?_ GE508.out | refine below_set ?_ GE513.out) | exact HB.out))) | exact Glob.drawn hG (by repeat (first | exact Drawn0.refl _ | apply Drawn0.step))) k _ _ t503 t506 t514 _ ?side1 ?side2 A3.out).mono ?_); (case side1 => refine (Kd.R_reads' (e := 126) (base := w.heap.size) (ok := fun k_ => True) (n := t503.length) (c := co74) ?_).2.2; exact (by (with_reducible repeat (first | apply Kd.R_alloc | apply Kd.R_drewN | apply Kd.R_drew)); exact (Kd.R_mono (Kd.R_far (p := ⟨gb513, 2, none⟩) (Kd.R_far (p := ⟨gb513, 1, none⟩) (Kd.R_far (p := ⟨gb513, 0, none⟩) (Kd.R_types HO505.out BK513.out (by decide)) (fun _ hk => hk.2) (.string t509)) (fun _ hk => hk.2) (.string t510)) (fun _ hk => hk.2) (.string t511)) (fun _ h_ => h_.1)))); (case side2 => exact (Kd.R_reads' HO505.out).2.1); rintro e w81 ⟨v515, rfl, ho0, hb⟩; refine ⟨_, rfl, ?_⟩; have n0_ := Aside0.mk (Kd.R_below (by (with_reducible repeat (first | apply Kd.R_alloc | apply Kd.R_drewN | apply Kd.R_drew)); exact (Kd.R_mono (Kd.R_far (p := ⟨gb513, 2, none⟩) (Kd.R_far (p := ⟨gb513, 1, none⟩) (Kd.R_far (p := ⟨gb513, 0, none⟩) (Kd.R_types HO505.out BK513.out (by decide)) (fun _ hk => hk.2) (.string t509)) (fun _ hk => hk.2) (.string t510)) (fun _ hk => hk.2) (.string t511)) (fun _ h_ => h_.1))) hb); have n1_ := Aside0.mk (Kd.R_lower ho0 (below_size bwS)); have n2_ := Aside0.mk (blk_below (g := gb508) (o := .cells #[.slice Ao74 t503.length co74, .string t506] 53 (0, 0)) (by (with_reducible repeat (first | refine blk_drewN ?_ _ | refine blk_drew ?_ | refine blk_alloc ?_ _)); refine blk_far ?_ NB508_513.out _; (with_reducible repeat (first | refine blk_drewN ?_ _ | refine blk_drew ?_ | refine blk_alloc ?_ _)); refine blk_far ?_ NB508_513.out _; (with_reducible repeat (first | refine blk_drewN ?_ _ | refine blk_drew ?_ | refine blk_alloc ?_ _)); refine blk_far ?_ NB508_513.out _; (with_reducible repeat (first | refine blk_drewN ?_ _ | refine blk_drew ?_ | refine blk_alloc ?_ _)); exact BK508.out) hb); have n3_ := Aside0.mk (blk_below (g := gb513) (o := .cells #[.string t509, .string t510, .string t511] 31 (0, 0)) (by (with_reducible repeat (first | refine blk_drewN ?_ _ | refine blk_drew ?_ | refine blk_alloc ?_ _)); refine blk_put (cs := #[.string t509, .string t510, .string (⟨#[]⟩ : ByteArray)]) ?_ 2 _ rfl; (with_reducible repeat (first | refine blk_drewN ?_ _ | refine blk_drew ?_ | refine blk_alloc ?_ _)); refine blk_put (cs := #[.string t509, .string (⟨#[]⟩ : ByteArray), .string (⟨#[]⟩ : ByteArray)]) ?_ 1 _ rfl; (with_reducible repeat (first | refine blk_drewN ?_ _ | refine blk_drew ?_ | refine blk_alloc ?_ _)); refine blk_put (cs := #[.string (⟨#[]⟩ : ByteArray), .string (⟨#[]⟩ : ByteArray), .string (⟨#[]⟩ : ByteArray)]) ?_ 0 _ rfl; (with_reducible repeat (first | refine blk_drewN ?_ _ | refine blk_drew ?_ | refine blk_alloc ?_ _)); exact BK513.out) hb); have n4_ := Aside0.mk (below_step bwS hb); clear HO505; clear BK508; clear BK513; clear HB; have HO505 := n0_; have HO516 := n1_; have BK508 := n2_; have BK513 := n3_; have HB := n4_; clear n0_ n1_ n2_ n3_ n4_; (try clear hb); (try clear hb2); (try clear hk); (try clear hi); (try clear ho0)))
   go_ret
   exact ⟨by first | rfl | (simp [errW_none, errW_some] <;> rfl) | (simp [*, errW_none, errW_some] <;> rfl), bwS⟩
 ·rw [if_neg c4] at H
  have c4b0 : (t507 == 0) = false := beq_eq_false_iff_ne.mpr c4
  have c4b1 : (t507 != 0) = true := bne_iff_ne.mpr c4
  obtain rfl := Option.some.inj H
  go_enter Tryd.func22, Tryd.ntmps22
  go_wp2_with (first | ((with_reducible refine gate_callee (f := 42) rfl ?_); refine goesL_ (some 7) rfl rfl Tryd.func42 (by kernel_rfl) rfl #[.string (⟨#[70, 114, 111, 109, 58, 32, 65, 110, 110, 32, 60, 97, 64, 98, 62, 13, 10, 13, 10, 104, 105, 13, 10]⟩ : ByteArray)] rfl am ?_; (with_reducible refine (msg_Parse.calls (hG := by first | exact hG | exact Glob.below hG (by first | exact HB.out | (repeat (first | (with_reducible first | exact HB.out | apply below_alloc | apply pw_below_drewN | apply below_drew1 | refine below_set ?_ GE508.out | refine below_set ?_ GE513.out) | exact HB.out))) | exact Glob.drawn hG (by repeat (first | exact Drawn0.refl _ | apply Drawn0.step))) k (⟨#[70, 114, 111, 109, 58, 32, 65, 110, 110, 32, 60, 97, 64, 98, 62, 13, 10, 13, 10, 104, 105, 13, 10]⟩ : ByteArray) t503 t506 t507 _ A1.out).mono ?_); rintro e w82 ⟨v504, rfl, ho0, hb⟩; refine ⟨_, rfl, ?_⟩; have n0_ := Aside0.mk (Kd.R_lower ho0 (below_size bw)); have n1_ := Aside0.mk (below_step bw hb); clear HB; have HO505 := n0_; have HB := n1_; clear n0_ n1_; (try clear hb); (try clear hb2); (try clear hk); (try clear hi); (try clear ho0)) | ((with_reducible refine gate_dst (N := 1) rfl ?_); (try (refine gate_guard (by rfl) ?_; dsimp only)); refine box_event ?hg (N := 1) ?hd (cs := #[.slice none 0 0, .string (⟨#[]⟩ : ByteArray)]) (t := 53) ?hr ?_; (case hd => rfl); (case hg => rfl); (case hr => first | (go_simp; done) | (go_simp; rfl)); intro gb508 hg w83 hbox hb; have n0_ := Aside0.mk (Kd.R_below (by (with_reducible repeat (first | apply Kd.R_alloc | apply Kd.R_drewN | apply Kd.R_drew)); exact HO505.out) hb); have n1_ := Aside0.mk (below_step bw hb); have n2_ := Aside0.mk (hbox); have n3_ := Aside0.mk ((by rw [hg]; exact (below_size bw) : w.heap.size ≤ gb508)); have n4_ := Aside0.mk ((by rw [hg]; exact (below_size bw) : w.heap.size ≤ gb508)); clear HO505; clear HB; have HO505 := n0_; have HB := n1_; have BK508 := n2_; have GW508 := n3_; have GE508 := n4_; clear n0_ n1_ n2_ n3_ n4_; clear hb hbox hg; obtain ⟨Ao84, co84, eo84⟩ := Kd.R_slice HO505.out; subst eo84; have hcz85_0 : w83.cell? ⟨gb508, 0, none⟩ = some (.slice none 0 0) := (blk_cell BK508.out 0).trans rfl; have hcz85_1 : w83.cell? ⟨gb508, 1, none⟩ = some (.string (⟨#[]⟩ : ByteArray)) := (blk_cell BK508.out 1).trans rfl; have hfz85_0 := blk_frozen BK508.out 0; have hfz85_1 := blk_frozen BK508.out 1) | ((with_reducible refine gate_callee (f := 43) rfl ?_); refine goesL_ (some 12) rfl rfl Tryd.func43 (by kernel_rfl) rfl #[.agg #[.slice Ao84 t503.length co84, .string t506]] rfl am ?_; (with_reducible refine (msg_Message_From.calls (hG := by first | exact hG | exact Glob.below hG (by first | exact HB.out | (repeat (first | (with_reducible first | exact HB.out | apply below_alloc | apply pw_below_drewN | apply below_drew1 | refine below_set ?_ GE508.out | refine below_set ?_ GE513.out) | exact HB.out))) | exact Glob.drawn hG (by repeat (first | exact Drawn0.refl _ | apply Drawn0.step))) k _ _ t503 t506 t509 t510 t511 t512 _ ?side1 ?side2 A2.out).mono ?_); (case side1 => refine (Kd.R_reads' (e := 126) (base := w.heap.size) (ok := fun k_ => True) (n := t503.length) (c := co84) ?_).2.2; exact (by (with_reducible repeat (first | apply Kd.R_alloc | apply Kd.R_drewN | apply Kd.R_drew)); exact (Kd.R_mono (Kd.R_far (p := ⟨gb508, 1, none⟩) (Kd.R_far (p := ⟨gb508, 0, none⟩) (Kd.R_types HO505.out BK508.out (by decide)) (fun _ hk => hk.2) (.slice Ao84 t503.length co84)) (fun _ hk => hk.2) (.string t506)) (fun _ h_ => h_.1)))); (case side2 => exact (Kd.R_reads' HO505.out).2.1); rintro e w86 ⟨rfl, hb⟩; refine ⟨_, rfl, ?_⟩; have n0_ := Aside0.mk (Kd.R_below (by (with_reducible repeat (first | apply Kd.R_alloc | apply Kd.R_drewN | apply Kd.R_drew)); exact (Kd.R_mono (Kd.R_far (p := ⟨gb508, 1, none⟩) (Kd.R_far (p := ⟨gb508, 0, none⟩) (Kd.R_types HO505.out BK508.out (by decide)) (fun _ hk => hk.2) (.slice Ao84 t503.length co84)) (fun _ hk => hk.2) (.string t506)) (fun _ h_ => h_.1))) hb); have n1_ := Aside0.mk (blk_below (g := gb508) (o := .cells #[.slice Ao84 t503.length co84, .string t506] 53 (0, 0)) (by (with_reducible repeat (first | refine blk_drewN ?_ _ | refine blk_drew ?_ | refine blk_alloc ?_ _)); refine blk_put (cs := #[.slice Ao84 t503.length co84, .string (⟨#[]⟩ : ByteArray)]) ?_ 1 _ rfl; (with_reducible repeat (first | refine blk_drewN ?_ _ | refine blk_drew ?_ | refine blk_alloc ?_ _)); refine blk_put (cs := #[.slice none 0 0, .string (⟨#[]⟩ : ByteArray)]) ?_ 0 _ rfl; (with_reducible repeat (first | refine blk_drewN ?_ _ | refine blk_drew ?_ | refine blk_alloc ?_ _)); exact BK508.out) hb); have n2_ := Aside0.mk (below_step bwS hb); clear HO505; clear BK508; clear HB; have HO505 := n0_; have BK508 := n1_; have HB := n2_; clear n0_ n1_ n2_; (try clear hb); (try clear hb2); (try clear hk); (try clear hi)) | ((with_reducible refine gate_dst (N := 3) rfl ?_); (try (refine gate_guard (by rfl) ?_; dsimp only)); refine box_event ?hg (N := 3) ?hd (cs := #[.string (⟨#[]⟩ : ByteArray), .string (⟨#[]⟩ : ByteArray), .string (⟨#[]⟩ : ByteArray)]) (t := 31) ?hr ?_; (case hd => rfl); (case hg => rfl); (case hr => first | (go_simp; done) | (go_simp; rfl)); intro gb513 hg w87 hbox hb; have n0_ := Aside0.mk (Kd.R_below (by (with_reducible repeat (first | apply Kd.R_alloc | apply Kd.R_drewN | apply Kd.R_drew)); exact HO505.out) hb); have n1_ := Aside0.mk (blk_below (g := gb508) (o := .cells #[.slice Ao84 t503.length co84, .string t506] 53 (0, 0)) bk hb); have n2_ := Aside0.mk (below_step bwS hb); have n3_ := Aside0.mk (hbox); have n4_ := Aside0.mk ((by rw [hg]; exact (below_size bwS) : w.heap.size ≤ gb513)); have n5_ := Aside0.mk ((by rw [hg]; exact (below_size bwS) : w.heap.size ≤ gb513)); have n6_ := Aside0.mk ((by rw [hg]; exact Nat.ne_of_lt (blk_lt (g := gb508) (o := .cells #[.slice Ao84 t503.length co84, .string t506] 53 (0, 0)) bk) : gb508 ≠ gb513)); have n7_ := Aside0.mk ((by rw [hg]; exact Nat.ne_of_gt (blk_lt (g := gb508) (o := .cells #[.slice Ao84 t503.length co84, .string t506] 53 (0, 0)) bk) : gb513 ≠ gb508)); clear HO505; clear BK508; clear HB; have HO505 := n0_; have BK508 := n1_; have HB := n2_; have BK513 := n3_; have GW513 := n4_; have GE513 := n5_; have NB508_513 := n6_; have NB513_508 := n7_; clear n0_ n1_ n2_ n3_ n4_ n5_ n6_ n7_; clear hb hbox hg; have hnb88 := NB513_508.out; have hnc88 := NB508_513.out; have hcz89_0 : w87.cell? ⟨gb513, 0, none⟩ = some (.string (⟨#[]⟩ : ByteArray)) := (blk_cell BK513.out 0).trans rfl; have hcz89_1 : w87.cell? ⟨gb513, 1, none⟩ = some (.string (⟨#[]⟩ : ByteArray)) := (blk_cell BK513.out 1).trans rfl; have hcz89_2 : w87.cell? ⟨gb513, 2, none⟩ = some (.string (⟨#[]⟩ : ByteArray)) := (blk_cell BK513.out 2).trans rfl; have hfz89_0 := blk_frozen BK513.out 0; have hfz89_1 := blk_frozen BK513.out 1; have hfz89_2 := blk_frozen BK513.out 2; have hcz90_0 : w87.cell? ⟨gb508, 0, none⟩ = some (.slice Ao84 t503.length co84) := (blk_cell BK508.out 0).trans rfl; have hcz90_1 : w87.cell? ⟨gb508, 1, none⟩ = some (.string t506) := (blk_cell BK508.out 1).trans rfl; have hfz90_0 := blk_frozen BK508.out 0; have hfz90_1 := blk_frozen BK508.out 1) | ((with_reducible refine gate_callee (f := 23) rfl ?_); refine goesL_ (some 16) rfl rfl Tryd.func23 (by kernel_rfl) rfl #[.agg #[.slice Ao84 t503.length co84, .string t506]] rfl am ?_; (with_reducible refine (msg_Message_Lines.calls (hG := by first | exact hG | exact Glob.below hG (by first | exact HB.out | (repeat (first | (with_reducible first | exact HB.out | apply below_alloc | apply pw_below_drewN | apply below_drew1 | refine below_set ?_ GE508.out | refine below_set ?_ GE513.out) | exact HB.out))) | exact Glob.drawn hG (by repeat (first | exact Drawn0.refl _ | apply Drawn0.step))) k _ _ t503 t506 t514 _ ?side1 ?side2 A3.out).mono ?_); (case side1 => refine (Kd.R_reads' (e := 126) (base := w.heap.size) (ok := fun k_ => True) (n := t503.length) (c := co84) ?_).2.2; exact (by (with_reducible repeat (first | apply Kd.R_alloc | apply Kd.R_drewN | apply Kd.R_drew)); exact (Kd.R_mono (Kd.R_far (p := ⟨gb513, 2, none⟩) (Kd.R_far (p := ⟨gb513, 1, none⟩) (Kd.R_far (p := ⟨gb513, 0, none⟩) (Kd.R_types HO505.out BK513.out (by decide)) (fun _ hk => hk.2) (.string t509)) (fun _ hk => hk.2) (.string t510)) (fun _ hk => hk.2) (.string t511)) (fun _ h_ => h_.1)))); (case side2 => exact (Kd.R_reads' HO505.out).2.1); rintro e w91 ⟨v515, rfl, ho0, hb⟩; refine ⟨_, rfl, ?_⟩; have n0_ := Aside0.mk (Kd.R_below (by (with_reducible repeat (first | apply Kd.R_alloc | apply Kd.R_drewN | apply Kd.R_drew)); exact (Kd.R_mono (Kd.R_far (p := ⟨gb513, 2, none⟩) (Kd.R_far (p := ⟨gb513, 1, none⟩) (Kd.R_far (p := ⟨gb513, 0, none⟩) (Kd.R_types HO505.out BK513.out (by decide)) (fun _ hk => hk.2) (.string t509)) (fun _ hk => hk.2) (.string t510)) (fun _ hk => hk.2) (.string t511)) (fun _ h_ => h_.1))) hb); have n1_ := Aside0.mk (Kd.R_lower ho0 (below_size bwS)); have n2_ := Aside0.mk (blk_below (g := gb508) (o := .cells #[.slice Ao84 t503.length co84, .string t506] 53 (0, 0)) (by (with_reducible repeat (first | refine blk_drewN ?_ _ | refine blk_drew ?_ | refine blk_alloc ?_ _)); refine blk_far ?_ NB508_513.out _; (with_reducible repeat (first | refine blk_drewN ?_ _ | refine blk_drew ?_ | refine blk_alloc ?_ _)); refine blk_far ?_ NB508_513.out _; (with_reducible repeat (first | refine blk_drewN ?_ _ | refine blk_drew ?_ | refine blk_alloc ?_ _)); refine blk_far ?_ NB508_513.out _; (with_reducible repeat (first | refine blk_drewN ?_ _ | refine blk_drew ?_ | refine blk_alloc ?_ _)); exact BK508.out) hb); have n3_ := Aside0.mk (blk_below (g := gb513) (o := .cells #[.string t509, .string t510, .string t511] 31 (0, 0)) (by (with_reducible repeat (first | refine blk_drewN ?_ _ | refine blk_drew ?_ | refine blk_alloc ?_ _)); refine blk_put (cs := #[.string t509, .string t510, .string (⟨#[]⟩ : ByteArray)]) ?_ 2 _ rfl; (with_reducible repeat (first | refine blk_drewN ?_ _ | refine blk_drew ?_ | refine blk_alloc ?_ _)); refine blk_put (cs := #[.string t509, .string (⟨#[]⟩ : ByteArray), .string (⟨#[]⟩ : ByteArray)]) ?_ 1 _ rfl; (with_reducible repeat (first | refine blk_drewN ?_ _ | refine blk_drew ?_ | refine blk_alloc ?_ _)); refine blk_put (cs := #[.string (⟨#[]⟩ : ByteArray), .string (⟨#[]⟩ : ByteArray), .string (⟨#[]⟩ : ByteArray)]) ?_ 0 _ rfl; (with_reducible repeat (first | refine blk_drewN ?_ _ | refine blk_drew ?_ | refine blk_alloc ?_ _)); exact BK513.out) hb); have n4_ := Aside0.mk (below_step bwS hb); clear HO505; clear BK508; clear BK513; clear HB; have HO505 := n0_; have HO516 := n1_; have BK508 := n2_; have BK513 := n3_; have HB := n4_; clear n0_ n1_ n2_ n3_ n4_; (try clear hb); (try clear hb2); (try clear hk); (try clear hi); (try clear ho0)))
  go_ret
  exact ⟨by first | rfl | (simp [errW_none, errW_some] <;> rfl) | (simp [*, errW_none, errW_some] <;> rfl), bwS⟩

end Go.Proofs.YtbjbpgmjijeppaaDoor.Fn
namespace Go.Proofs.YtbjbpgmjijeppaaDoor.Fn
open Go.RowKit Go.Proofs.YtbjbpgmjijeppaaDoorW.PrintWords Go.Proofs.YtbjbpgmjijeppaaDoorW.PrintLast Go.Proofs.YtbjbpgmjijeppaaDoorW.PrintMore
attribute [local go_sem] max2_int min2_int max_two min_two max_three min_three max_four min_four
set_option linter.unusedVariables false
set_option linter.unusedSimpArgs false

/-! ### bulletinlaw16_MsgJoins: function 8 -/
mutual
def bulletinlaw16_MsgJoins.l0 : Nat → ByteArray → ByteArray → List ByteArray → Int → Int → Option (Bool)
 | 0, _, _, _, _, _ => none
 | k + 1, x0, x3, x14, x15, x16 => if x16 < x15 then (if 0 ≤ x16 then (if x16 < (x14.length : Int) then (bulletinlaw16_MsgJoins.l1 k x0 x3 (rdOf ByteArray.empty x14 x16) 0 x14 x15 x16) else (none)) else (none)) else (if x3.toList = x0.toList then (some true) else (if x0.size + 2 ≤ 9223372036854775807 then (some (x3.toList == (x0 ++ (⟨#[13, 10]⟩ : ByteArray)).toList)) else (none)))
def bulletinlaw16_MsgJoins.l1 : Nat → ByteArray → ByteArray → ByteArray → Int → List ByteArray → Int → Int → Option (Bool)
 | 0, _, _, _, _, _, _, _ => none
 | k + 1, x0, x3, x5, x6, x14, x15, x16 => if (wrap64 (x6 + 1)) < (x5.size : Int) then (if 0 ≤ x6 then (if x6 < (x5.size : Int) then (if (bt x5 x6) = 13 then (if 0 ≤ (wrap64 (x6 + 1)) then (if (bt x5 (wrap64 (x6 + 1))) = 10 then (some false) else (bulletinlaw16_MsgJoins.l1 k x0 x3 x5 (wrap64 (x6 + 1)) x14 x15 x16)) else (none)) else (bulletinlaw16_MsgJoins.l1 k x0 x3 x5 (wrap64 (x6 + 1)) x14 x15 x16)) else (none)) else (none)) else (if x5.size + 2 ≤ 9223372036854775807 then (if x3.size + (x5 ++ (⟨#[13, 10]⟩ : ByteArray)).size ≤ 9223372036854775807 then (bulletinlaw16_MsgJoins.l0 k x0 (x3 ++ (x5 ++ (⟨#[13, 10]⟩ : ByteArray))) x14 x15 (wrap64 (x16 + 1))) else (none)) else (none))
end
def bulletinlaw16_MsgJoins.f (k : Nat) (a0 : ByteArray) : Option (Bool) := (bulletinlaw16_works.f k).bind fun t519 => (if t519 = true then (if (a0.size : Int) > 3000 then (some true) else ((msg_Message_Lines.f k ([] : List (S126)) a0).bind fun t520 => (bulletinlaw16_MsgJoins.l0 k a0 (⟨#[]⟩ : ByteArray) t520 (t520.length : Int) 0))) else (some false))
set_option maxHeartbeats 8000000 in
set_option maxRecDepth 100000 in
theorem bulletinlaw16_MsgJoins.calls (k : Nat) (a0 : ByteArray) (r : Bool) (w : World) (hG : Glob w) (h : bulletinlaw16_MsgJoins.f k a0 = some r) :
  Calls Tryd.prog 8 #[.string a0] w fun e w' => e = .returned (.bool r) ∧ Below w.heap.size w w' := by
 have hu53 := Tryd.underlying53
 have HB := Aside0.mk (Below.refl w.heap.size w)
 have H : ((bulletinlaw16_works.f k).bind fun t519 => (if t519 = true then (if (a0.size : Int) > 3000 then (some true) else ((msg_Message_Lines.f k ([] : List (S126)) a0).bind fun t520 => (bulletinlaw16_MsgJoins.l0 k a0 (⟨#[]⟩ : ByteArray) t520 (t520.length : Int) 0))) else (some false))) = some r := h
 clear h
 replace H := Option.bind_eq_some_iff.mp H
 obtain ⟨t519, A20, H⟩ := H
 replace H : (if t519 = true then (if (a0.size : Int) > 3000 then (some true) else ((msg_Message_Lines.f k ([] : List (S126)) a0).bind fun t520 => (bulletinlaw16_MsgJoins.l0 k a0 (⟨#[]⟩ : ByteArray) t520 (t520.length : Int) 0))) else (some false)) = some r := H
 have A2 := Aside0.mk A20
 clear A20
 by_cases c3 : t519 = true
 ·subst c3
  have H1 : (if (a0.size : Int) > 3000 then (some true) else ((msg_Message_Lines.f k ([] : List (S126)) a0).bind fun t520 => (bulletinlaw16_MsgJoins.l0 k a0 (⟨#[]⟩ : ByteArray) t520 (t520.length : Int) 0))) = some r := by rw [if_pos rfl] at H; exact H
  clear H
  have H := H1
  clear H1
  by_cases c4 : (a0.size : Int) > 3000
  ·rw [if_pos c4] at H
   have c4b0 : decide (3000 < (a0.size : Int)) = true := decide_eq_true c4
   have c4b1 : decide (3000 < a0.size) = true := decide_eq_true (by omega)
   clear c4
   obtain rfl := Option.some.inj H
   go_enter Tryd.func8, Tryd.ntmps8
   go_wp2_with (first | ((with_reducible refine gate_callee (f := 22) rfl ?_); refine goesL_ (some 7) rfl rfl Tryd.func22 (by kernel_rfl) rfl #[] rfl am ?_; (with_reducible refine (bulletinlaw16_works.calls (hG := by first | exact hG | exact Glob.below hG (by first | exact HB.out | (repeat (first | (with_reducible first | exact HB.out | apply below_alloc | apply pw_below_drewN | apply below_drew1) | exact HB.out))) | exact Glob.drawn hG (by repeat (first | exact Drawn0.refl _ | apply Drawn0.step))) k  true _ A2.out).mono ?_); rintro e w5 ⟨rfl, hb⟩; refine ⟨_, rfl, ?_⟩; have n0_ := Aside0.mk (below_step bw hb); clear HB; have HB := n0_; clear n0_; (try clear hb); (try clear hb2); (try clear hk); (try clear hi)))
   go_ret
   exact ⟨by first | rfl | (simp [errW_none, errW_some] <;> rfl) | (simp [*, errW_none, errW_some] <;> rfl), bw⟩
  ·rw [if_neg c4] at H
   have c4b0 : decide (3000 < (a0.size : Int)) = false := decide_eq_false c4
   have c4b1 : decide (3000 < a0.size) = false := decide_eq_false (by omega)
   clear c4
   replace H := Option.bind_eq_some_iff.mp H
   obtain ⟨t520, A60, H⟩ := H
   replace H : (bulletinlaw16_MsgJoins.l0 k a0 (⟨#[]⟩ : ByteArray) t520 (t520.length : Int) 0) = some r := H
   have A6 := Aside0.mk A60
   clear A60
   have H' := Aside0.mk H
   clear H
   go_enter Tryd.func8, Tryd.ntmps8
   go_wp2_with (first | ((with_reducible refine gate_callee (f := 22) rfl ?_); refine goesL_ (some 7) rfl rfl Tryd.func22 (by kernel_rfl) rfl #[] rfl am ?_; (with_reducible refine (bulletinlaw16_works.calls (hG := by first | exact hG | exact Glob.below hG (by first | exact HB.out | (repeat (first | (with_reducible first | exact HB.out | apply below_alloc | apply pw_below_drewN | apply below_drew1) | exact HB.out))) | exact Glob.drawn hG (by repeat (first | exact Drawn0.refl _ | apply Drawn0.step))) k  true _ A2.out).mono ?_); rintro e w7 ⟨rfl, hb⟩; refine ⟨_, rfl, ?_⟩; have n0_ := Aside0.mk (below_step bw hb); clear HB; have HB := n0_; clear n0_; (try clear hb); (try clear hb2); (try clear hk); (try clear hi)) | ((with_reducible refine gate_callee (f := 23) rfl ?_); refine goesL_ (some 14) rfl rfl Tryd.func23 (by kernel_rfl) rfl #[.agg #[.slice none 0 0, .string a0]] rfl am ?_; (refine (msg_Message_Lines.calls (hG := by first | exact hG | exact Glob.below hG (by first | exact HB.out | (repeat (first | (with_reducible first | exact HB.out | apply below_alloc | apply pw_below_drewN | apply below_drew1) | exact HB.out))) | exact Glob.drawn hG (by repeat (first | exact Drawn0.refl _ | apply Drawn0.step))) k _ _ ([] : List (S126)) a0 t520 _ ?side1 ?side2 A6.out).mono ?_); (case side1 => exact Kd.C_nil _ _); (case side2 => exact Nat.le_refl _); rintro e w8 ⟨v521, rfl, ho0, hb⟩; refine ⟨_, rfl, ?_⟩; have n0_ := Aside0.mk (Kd.R_lower ho0 (below_size bw)); have n1_ := Aside0.mk (below_step bw hb); clear HB; have HO522 := n0_; have HB := n1_; clear n0_ n1_; (try clear hb); (try clear hb2); (try clear hk); (try clear hi); (try clear ho0); obtain ⟨Ao9, co9, eo9⟩ := Kd.R_slice HO522.out; subst eo9))
   go_loopg [3, 16] k (fun kq v3 v16 w' => ∃ (x3_1 : ByteArray) (x16_1 : Int), v3 = .string x3_1 ∧ v16 = .int .i64 x16_1 ∧ Aside0 (bulletinlaw16_MsgJoins.l0 kq a0 x3_1 t520 (t520.length : Int) x16_1 = some r) ∧ Aside0 (kq ≤ k) ∧ Aside0 (Kd.R Kd.string 9 w' w.heap.size (fun _ => True) (.slice Ao9 t520.length co9) t520) ∧ Aside0 (Below w.heap.size w w'))
   case atStart => exact ⟨((⟨#[]⟩ : ByteArray)), (0), cl, cl, H', ⟨Nat.le_refl _⟩, ⟨by (with_reducible repeat (first | apply Kd.R_alloc | apply Kd.R_drewN | apply Kd.R_drew)); exact HO522.out⟩, ⟨bw⟩⟩
   case round =>
    clear H'
    try clear c2
    try clear p2
    try clear c3
    try clear c4
    try clear c4b0
    try clear c4b1
    try clear c8
    obtain ⟨x3_1, x16_1, rfl, rfl, HA, HK1, HO_14, HB⟩ := hrel
    cases gk with
    | zero => exact absurd HA.out (by simp [bulletinlaw16_MsgJoins.l0])
    | succ k1 =>
     have H := HA.out
     clear HA
     simp only [bulletinlaw16_MsgJoins.l0] at H
     by_cases c10 : x16_1 < (t520.length : Int)
     ·rw [if_pos c10] at H
      have c10b0 : decide (x16_1 < (t520.length : Int)) = true := decide_eq_true c10
      clear c10
      by_cases c11 : 0 ≤ x16_1
      ·rw [if_pos c11] at H
       have c11b0 : decide (0 ≤ x16_1) = true := decide_eq_true c11
       clear c11
       by_cases c12 : x16_1 < (t520.length : Int)
       ·rw [if_pos c12] at H
        have c12b0 : decide (x16_1 < (t520.length : Int)) = true := decide_eq_true c12
        clear c12
        have H' := Aside0.mk H
        clear H
        have p523 : 0 ≤ (x16_1 : Int) := od
        have q523 : x16_1 < (t520.length : Int) := od
        obtain ⟨ad523, e523, hx523_0⟩ := Kd.at_string (Kd.R_reads' HO_14.out).2.2 x16_1 p523 q523
        cases e523
        replace p523 := eq_true p523
        replace q523 := eq_true q523
        go_wp2
        go_loopg [6] k1 (fun kq v6 w' => ∃ (x6_2 : Int), v6 = .int .i64 x6_2 ∧ Aside0 (bulletinlaw16_MsgJoins.l1 kq a0 x3_1 (rdOf ByteArray.empty t520 x16_1) x6_2 t520 (t520.length : Int) x16_1 = some r) ∧ Aside0 (kq ≤ k1) ∧ Aside0 (Kd.R Kd.string 9 w' w.heap.size (fun _ => True) (.slice (some ad523) t520.length co9) t520) ∧ Aside0 (Below w.heap.size w w'))
        case atStart => exact ⟨(0), cl, H', ⟨Nat.le_refl _⟩, ⟨by (with_reducible repeat (first | apply Kd.R_alloc | apply Kd.R_drewN | apply Kd.R_drew)); exact HO_14.out⟩, ⟨bw⟩⟩
        case round =>
         clear H'
         try clear c1
         try clear c2
         try clear p2
         try clear c3
         try clear c4
         try clear c4b0
         try clear c4b1
         try clear p5
         try clear q5
         try clear hx5
         try clear c8
         try clear c10
         try clear c10b0
         try clear c11
         try clear c11b0
         try clear c12
         try clear c12b0
         try clear hx523_0
         try clear p2
         try clear p523
         try clear q523
         obtain ⟨x6_2, rfl, HA, HK2, HO_14, HB⟩ := hrel
         cases gk with
         | zero => exact absurd HA.out (by simp [bulletinlaw16_MsgJoins.l1])
         | succ k2 =>
          have H := HA.out
          clear HA
          simp only [bulletinlaw16_MsgJoins.l1] at H
          by_cases c13 : (wrap64 (x6_2 + 1)) < ((rdOf ByteArray.empty t520 x16_1).size : Int)
          ·rw [if_pos c13] at H
           have c13b0 : decide ((wrap64 (x6_2 + 1)) < ((rdOf ByteArray.empty t520 x16_1).size : Int)) = true := decide_eq_true c13
           clear c13
           by_cases c14 : 0 ≤ x6_2
           ·rw [if_pos c14] at H
            have c14b0 : decide (0 ≤ x6_2) = true := decide_eq_true c14
            clear c14
            by_cases c15 : x6_2 < ((rdOf ByteArray.empty t520 x16_1).size : Int)
            ·rw [if_pos c15] at H
             have c15b0 : decide (x6_2 < ((rdOf ByteArray.empty t520 x16_1).size : Int)) = true := decide_eq_true c15
             clear c15
             by_cases c17 : (bt (rdOf ByteArray.empty t520 x16_1) x6_2) = 13
             ·rw [if_pos c17] at H
              have c17b0 : ((bt (rdOf ByteArray.empty t520 x16_1) x6_2) == 13) = true := beq_iff_eq.mpr c17
              have c17b1 : ((bt (rdOf ByteArray.empty t520 x16_1) x6_2) != 13) = false := bne_eq_false_iff_eq.mpr c17
              clear c17
              obtain ⟨ji18, hji18⟩ : ∃ j_ : Int, (wrap64 (x6_2 + 1)) = j_ := ⟨_, rfl⟩
              replace H : (if 0 ≤ (ji18) then (if (bt (rdOf ByteArray.empty t520 x16_1) (ji18)) = 10 then (some false) else (bulletinlaw16_MsgJoins.l1 k2 a0 x3_1 (rdOf ByteArray.empty t520 x16_1) ji18 t520 (t520.length : Int) x16_1)) else (none)) = some r := by first | (rw [hji18] at H; exact H) | (simp only [hji18] at H ⊢; exact H)
              (try rw [hji18] at c13b0)
              have hji18w : (IntKind.i64.wrap (x6_2 + 1)) = ji18 := (i64_w _).trans hji18
              by_cases c19 : 0 ≤ (ji18)
              ·rw [if_pos c19] at H
               have c19b0 : decide (0 ≤ (ji18)) = true := decide_eq_true c19
               clear c19
               by_cases c21 : (bt (rdOf ByteArray.empty t520 x16_1) (ji18)) = 10
               ·rw [if_pos c21] at H
                have c21b0 : ((bt (rdOf ByteArray.empty t520 x16_1) (ji18)) == 10) = true := beq_iff_eq.mpr c21
                have c21b1 : ((bt (rdOf ByteArray.empty t520 x16_1) (ji18)) != 10) = false := bne_eq_false_iff_eq.mpr c21
                clear c21
                obtain rfl := Option.some.inj H
                have p16 : 0 ≤ (x6_2 : Int) := od
                have q16 : x6_2 < ((rdOf ByteArray.empty t520 x16_1).size : Int) := od
                have hx16 := bt_at (rdOf ByteArray.empty t520 x16_1) x6_2
                replace p16 := eq_true p16
                replace q16 := eq_true q16
                have p20 : 0 ≤ ((ji18) : Int) := od
                have q20 : (ji18) < ((rdOf ByteArray.empty t520 x16_1).size : Int) := od
                have hx20 := bt_at (rdOf ByteArray.empty t520 x16_1) (ji18)
                replace p20 := eq_true p20
                replace q20 := eq_true q20
                go_wp2
                go_ret
                exact ⟨by first | rfl | (simp [errW_none, errW_some] <;> rfl) | (simp only [← hji18]; first | rfl | (simp [errW_none, errW_some] <;> rfl)) | (simp [*, errW_none, errW_some] <;> rfl), bw⟩
               ·rw [if_neg c21] at H
                have c21b0 : ((bt (rdOf ByteArray.empty t520 x16_1) (ji18)) == 10) = false := beq_eq_false_iff_ne.mpr c21
                have c21b1 : ((bt (rdOf ByteArray.empty t520 x16_1) (ji18)) != 10) = true := bne_iff_ne.mpr c21
                have H' := Aside0.mk H
                clear H
                have p16 : 0 ≤ (x6_2 : Int) := od
                have q16 : x6_2 < ((rdOf ByteArray.empty t520 x16_1).size : Int) := od
                have hx16 := bt_at (rdOf ByteArray.empty t520 x16_1) x6_2
                replace p16 := eq_true p16
                replace q16 := eq_true q16
                have p20 : 0 ≤ ((ji18) : Int) := od
                have q20 : (ji18) < ((rdOf ByteArray.empty t520 x16_1).size : Int) := od
                have hx20 := bt_at (rdOf ByteArray.empty t520 x16_1) (ji18)
                replace p20 := eq_true p20
                replace q20 := eq_true q20
                go_wp2
                go_roundg k2
                case measure => have := HK1.out; have := HK2.out; omega
                case rel => exact ⟨(ji18), (by first | rfl | (simp; done) | (simp only [← hji18] <;> (first | rfl | simp)) | (simp [*]; done) | (simp [nil_ne]; done)), H', ⟨by have := HK1.out; have := HK2.out; omega⟩, ⟨by (with_reducible repeat (first | apply Kd.R_alloc | apply Kd.R_drewN | apply Kd.R_drew)); exact HO_14.out⟩, ⟨bw⟩⟩
              ·rw [if_neg c19] at H
               exact absurd H (by simp)
             ·rw [if_neg c17] at H
              have c17b0 : ((bt (rdOf ByteArray.empty t520 x16_1) x6_2) == 13) = false := beq_eq_false_iff_ne.mpr c17
              have c17b1 : ((bt (rdOf ByteArray.empty t520 x16_1) x6_2) != 13) = true := bne_iff_ne.mpr c17
              have H' := Aside0.mk H
              clear H
              have p16 : 0 ≤ (x6_2 : Int) := od
              have q16 : x6_2 < ((rdOf ByteArray.empty t520 x16_1).size : Int) := od
              have hx16 := bt_at (rdOf ByteArray.empty t520 x16_1) x6_2
              replace p16 := eq_true p16
              replace q16 := eq_true q16
              go_wp2
              go_roundg k2
              case measure => have := HK1.out; have := HK2.out; omega
              case rel => exact ⟨(wrap64 (x6_2 + 1)), cl, H', ⟨by have := HK1.out; have := HK2.out; omega⟩, ⟨by (with_reducible repeat (first | apply Kd.R_alloc | apply Kd.R_drewN | apply Kd.R_drew)); exact HO_14.out⟩, ⟨bw⟩⟩
            ·rw [if_neg c15] at H
             exact absurd H (by simp)
           ·rw [if_neg c14] at H
            exact absurd H (by simp)
          ·rw [if_neg c13] at H
           have c13b0 : decide ((wrap64 (x6_2 + 1)) < ((rdOf ByteArray.empty t520 x16_1).size : Int)) = false := decide_eq_false c13
           clear c13
           by_cases c22 : (rdOf ByteArray.empty t520 x16_1).size + 2 ≤ 9223372036854775807
           ·rw [if_pos c22] at H
            have c22b0 := eq_true c22
            have c22b1 : decide ((rdOf ByteArray.empty t520 x16_1).size + 2 ≤ 9223372036854775807) = true := decide_eq_true c22
            try have c22b2 : (9223372036854775807 < (rdOf ByteArray.empty t520 x16_1).size + 2) = False := eq_false (Nat.not_lt.2 c22)
            by_cases c23 : x3_1.size + ((rdOf ByteArray.empty t520 x16_1) ++ (⟨#[13, 10]⟩ : ByteArray)).size ≤ 9223372036854775807
            ·rw [if_pos c23] at H
             have c23b0 := eq_true c23
             have c23b1 : decide (x3_1.size + ((rdOf ByteArray.empty t520 x16_1) ++ (⟨#[13, 10]⟩ : ByteArray)).size ≤ 9223372036854775807) = true := decide_eq_true c23
             try have c23b2 : (9223372036854775807 < x3_1.size + ((rdOf ByteArray.empty t520 x16_1) ++ (⟨#[13, 10]⟩ : ByteArray)).size) = False := eq_false (Nat.not_lt.2 c23)
             try (have c23b3 := c23; simp only [ByteArray.size_append, size_lit, ByteArray.size_extract, List.size_toArray, List.length_cons, List.length_nil, Nat.zero_add, Nat.reduceAdd] at c23b3; have c23b4 := eq_false (Nat.not_lt.2 c23b3))
             have H' := Aside0.mk H
             clear H
             go_wp2
             go_roundg k2
             case measure => have := HK1.out; have := HK2.out; omega
             case rel => exact ⟨(x3_1 ++ ((rdOf ByteArray.empty t520 x16_1) ++ (⟨#[13, 10]⟩ : ByteArray))), (wrap64 (x16_1 + 1)), cl, cl, H', ⟨by have := HK1.out; have := HK2.out; omega⟩, ⟨by (with_reducible repeat (first | apply Kd.R_alloc | apply Kd.R_drewN | apply Kd.R_drew)); exact HO_14.out⟩, ⟨bw⟩⟩
            ·rw [if_neg c23] at H
             exact absurd H (by simp)
           ·rw [if_neg c22] at H
            exact absurd H (by simp)
       ·rw [if_neg c12] at H
        exact absurd H (by simp)
      ·rw [if_neg c11] at H
       exact absurd H (by simp)
     ·rw [if_neg c10] at H
      have c10b0 : decide (x16_1 < (t520.length : Int)) = false := decide_eq_false c10
      clear c10
      by_cases c24 : x3_1.toList = a0.toList
      ·rw [if_pos c24] at H
       have c24b0 : (x3_1.toList == a0.toList) = true := beq_iff_eq.mpr c24
       have c24b1 : (x3_1.toList != a0.toList) = false := bne_eq_false_iff_eq.mpr c24
       clear c24
       obtain rfl := Option.some.inj H
       go_wp2
       go_ret
       exact ⟨by first | rfl | (simp [errW_none, errW_some] <;> rfl) | (simp [*, errW_none, errW_some] <;> rfl), bw⟩
      ·rw [if_neg c24] at H
       have c24b0 : (x3_1.toList == a0.toList) = false := beq_eq_false_iff_ne.mpr c24
       have c24b1 : (x3_1.toList != a0.toList) = true := bne_iff_ne.mpr c24
       by_cases c25 : a0.size + 2 ≤ 9223372036854775807
       ·rw [if_pos c25] at H
        have c25b0 := eq_true c25
        have c25b1 : decide (a0.size + 2 ≤ 9223372036854775807) = true := decide_eq_true c25
        try have c25b2 : (9223372036854775807 < a0.size + 2) = False := eq_false (Nat.not_lt.2 c25)
        obtain rfl := Option.some.inj H
        go_wp2
        go_ret
        exact ⟨by first | rfl | (simp [errW_none, errW_some] <;> rfl) | (simp [*, errW_none, errW_some] <;> rfl), bw⟩
       ·rw [if_neg c25] at H
        exact absurd H (by simp)
 ·replace c3 := Bool.eq_false_iff.mpr c3
  subst c3
  have H1 : (some false) = some r := by rw [if_neg (show ¬ (false = true) by decide)] at H; exact H
  clear H
  have H := H1
  clear H1
  obtain rfl := Option.some.inj H
  go_enter Tryd.func8, Tryd.ntmps8
  go_wp2_with (first | ((with_reducible refine gate_callee (f := 22) rfl ?_); refine goesL_ (some 7) rfl rfl Tryd.func22 (by kernel_rfl) rfl #[] rfl am ?_; (with_reducible refine (bulletinlaw16_works.calls (hG := by first | exact hG | exact Glob.below hG (by first | exact HB.out | (repeat (first | (with_reducible first | exact HB.out | apply below_alloc | apply pw_below_drewN | apply below_drew1) | exact HB.out))) | exact Glob.drawn hG (by repeat (first | exact Drawn0.refl _ | apply Drawn0.step))) k  false _ A2.out).mono ?_); rintro e w26 ⟨rfl, hb⟩; refine ⟨_, rfl, ?_⟩; have n0_ := Aside0.mk (below_step bw hb); clear HB; have HB := n0_; clear n0_; (try clear hb); (try clear hb2); (try clear hk); (try clear hi)))
  go_ret
  exact ⟨by first | rfl | (simp [errW_none, errW_some] <;> rfl) | (simp [*, errW_none, errW_some] <;> rfl), bw⟩


end Go.Proofs.YtbjbpgmjijeppaaDoor.Fn
set_option linter.unusedVariables false
set_option linter.unusedSimpArgs false
namespace Go.Proofs.YtbjbpgmjijeppaaDoor.Pl
open Go.RowKit Go.Proofs.YtbjbpgmjijeppaaDoorW.PrintWords Go.Proofs.YtbjbpgmjijeppaaDoor.Fn

/-! head.Parse as a machine over lists of bytes. -/
abbrev Fld := Bytes × Bytes
def nameB (c : UInt8) : Bool := !decide (c.toNat < 33) && (!decide (126 < c.toNat) && !decide (c.toNat = 58))
def named (s : Bytes) : Bool := s.all nameB && (!decide (s = []) && decide (s.length ≤ 76))
def crlf : Bytes → Option Nat
  | [] => none
  | c :: r => if c = 13 ∧ r.head? = some 10 then some 0 else (crlf r).map (· + 1)
def upto (c : UInt8) : Bytes → Nat
  | [] => 0
  | d :: r => if d = c then 0 else upto c r + 1
def bad (e : Int) : List Fld × Bytes × Int := ([], [], e)
theorem crlf_room : ∀ {s : Bytes} {i : Nat}, crlf s = some i → i + 2 ≤ s.length
  | [], i, h => by simp [crlf] at h
  | c :: r, i, h => by
    unfold crlf at h
    split at h
    · rename_i hc
      injection h with h
      subst h
      cases r with
      | nil => simp at hc
      | cons d r => simp
    · rw [Option.map_eq_some_iff] at h
      obtain ⟨j, hj, rfl⟩ := h
      have := crlf_room hj
      simp only [List.length_cons]; omega
theorem index_crlf : ∀ (s : Bytes), Lib.index s [13, 10] = (match crlf s with | some i => (i : Int) | none => -1)
  | [] => rfl
  | c :: r => by
    have ih := index_crlf r
    rw [Lib.index, crlf]
    by_cases h : c = 13 ∧ r.head? = some 10
    · rw [if_pos h]
      obtain ⟨rfl, h2⟩ := h
      cases r with
      | nil => simp at h2
      | cons d r =>
        simp at h2
        subst h2
        rw [if_pos (by simp [List.isPrefixOf])]
        rfl
    · rw [if_neg h]
      have hp : ([13, 10] : Bytes).isPrefixOf (c :: r) = false := by
        cases r with
        | nil => simp [List.isPrefixOf]
        | cons d r =>
          simp only [List.head?_cons, Option.some.injEq] at h
          simp [List.isPrefixOf]
          intro h1 h2
          exact h ⟨h1.symm, h2.symm⟩
      rw [hp, if_neg (by decide), ih]
      cases crlf r with
      | none => rfl
      | some i =>
        simp only [Option.map_some]
        rw [if_neg (by first | (simp; done) | (simp; omega))]
        show (i : Int) + 1 = ((i + 1 : Nat) : Int)
        omega
theorem cut_crlf (s : ByteArray) (h : s.size ≤ 1000000000) : strings_Cut.f s (⟨#[13, 10]⟩ : ByteArray) = some (match crlf (bs s) with
    | some i => (str ((bs s).take i), str ((bs s).drop (i + 2)), true)
    | none => (s, str [], false)) := by
  unfold strings_Cut.f
  rw [if_pos (by omega)]
  congr 1
  have e : Lib.cut s.data.toList (⟨#[13, 10]⟩ : ByteArray).data.toList = Lib.cut (bs s) [13, 10] := rfl
  rw [e]
  unfold Lib.cut
  rw [index_crlf]
  cases crlf (bs s) with
  | none => simp [str_bs]
  | some i => simp
end Go.Proofs.YtbjbpgmjijeppaaDoor.Pl
set_option linter.unusedVariables false
set_option linter.unusedSimpArgs false
namespace Go.Proofs.YtbjbpgmjijeppaaDoor.Pl
open Go.RowKit Go.Proofs.YtbjbpgmjijeppaaDoorW.PrintWords Go.Proofs.YtbjbpgmjijeppaaDoor.Fn

/-! Layer 16: a body's lines -/
def linesM : Nat → Bytes → List Bytes
  | 0, _ => []
  | n + 1, s => if s = [] then [] else match crlf s with
    | some i => s.take i :: linesM n (s.drop (i + 2))
    | none => [s]
def linesB (s : Bytes) : List Bytes := linesM s.length s
theorem msgLines_l0 : ∀ (n : Nat) (s : Bytes) (acc : List Bytes) (k : Nat), s.length ≤ n → n + 1 < k → acc.length + n ≤ 1000000 →
    msg_Message_Lines.l0 k (acc.map str) (str s) = some ((acc ++ linesM n s).map str)
  | n, [], acc, k, hn, hk, ha => by
    obtain ⟨k, rfl⟩ : ∃ q, k = q + 1 := ⟨k - 1, by omega⟩
    have e : linesM n [] = [] := by cases n <;> rfl
    rw [msg_Message_Lines.l0, if_pos (by rw [toList_str]), e, List.append_nil]
  | 0, c :: s, acc, k, hn, hk, ha => by simp at hn
  | n + 1, c :: s, acc, k, hn, hk, ha => by
    obtain ⟨k, rfl⟩ : ∃ q, k = q + 1 := ⟨k - 1, by omega⟩
    have hl : (c :: s).length ≤ 1000000 := by omega
    rw [msg_Message_Lines.l0, if_neg (by rw [toList_str]; simp), cut_crlf _ (by rw [str_size]; omega), Option.bind_some, bs_str, show linesM (n + 1) (c :: s) = (match crlf (c :: s) with | some i => (c :: s).take i :: linesM n ((c :: s).drop (i + 2)) | none => [c :: s]) from by rw [linesM, if_neg (by simp)]]
    cases hc : crlf (c :: s) with
    | none =>
      simp only []
      rw [if_pos (by rw [List.length_map]; omega), show acc.map str ++ [str (c :: s)] = (acc ++ [c :: s]).map str by simp]
      have := msgLines_l0 n [] (acc ++ [c :: s]) k (Nat.zero_le _) (by omega) (by rw [List.length_append, List.length_singleton]; omega)
      have e : linesM n [] = [] := by cases n <;> rfl
      rw [e, List.append_nil] at this
      exact this
    | some i =>
      have hr := crlf_room hc
      simp only []
      rw [if_pos (by rw [List.length_map]; omega), show acc.map str ++ [str ((c :: s).take i)] = (acc ++ [(c :: s).take i]).map str by simp]
      rw [msgLines_l0 n ((c :: s).drop (i + 2)) (acc ++ [(c :: s).take i]) k (by rw [List.length_drop]; omega) (by omega) (by rw [List.length_append, List.length_singleton]; omega)]
      simp
theorem msgLines_is (fs : List S126) (s : ByteArray) (hs : s.size ≤ 1000000) (k : Nat) (hk : s.size + 1 < k) : msg_Message_Lines.f k fs s = some ((linesB (bs s)).map str) := by
  have := msgLines_l0 (bs s).length (bs s) [] k (Nat.le_refl _) (by rw [bs_length]; exact hk) (by rw [bs_length]; simpa using hs)
  rw [str_bs] at this
  unfold msg_Message_Lines.f
  exact this
/-! the lines, each with its end behind it -/
def flatE (l : List Bytes) : Bytes := l.flatMap fun x => x ++ [13, 10]
theorem crlf_split : ∀ {s : Bytes} {i : Nat}, crlf s = some i → s = s.take i ++ 13 :: 10 :: s.drop (i + 2)
  | [], i, h => by simp [crlf] at h
  | c :: r, i, h => by
    unfold crlf at h
    split at h
    · rename_i hc
      injection h with h
      subst h
      cases r with
      | nil => simp at hc
      | cons d r =>
        simp at hc
        rw [hc.1, hc.2]
        rfl
    · rw [Option.map_eq_some_iff] at h
      obtain ⟨j, hj, rfl⟩ := h
      have := crlf_split hj
      rw [List.take_succ_cons, List.cons_append, show j + 1 + 2 = (j + 2) + 1 by omega, List.drop_succ_cons, ← this]
theorem crlf_take : ∀ {s : Bytes} {i : Nat}, crlf s = some i → crlf (s.take i) = none
  | [], i, h => by simp [crlf] at h
  | c :: r, i, h => by
    unfold crlf at h
    split at h
    · injection h with h
      subst h
      rfl
    · rename_i hc
      rw [Option.map_eq_some_iff] at h
      obtain ⟨j, hj, rfl⟩ := h
      have ih := crlf_take hj
      rw [List.take_succ_cons, crlf, if_neg, ih]
      · rfl
      · rintro ⟨h1, h2⟩
        refine hc ⟨h1, ?_⟩
        cases r with
        | nil => simp at h2
        | cons d r =>
          cases j with
          | zero => simp at h2
          | succ j => simpa using h2
theorem flat_lines : ∀ (n : Nat) (s : Bytes), s.length ≤ n → flatE (linesM n s) = s ∨ flatE (linesM n s) = s ++ [13, 10]
  | 0, s, h => by
    have h0 : s = [] := List.eq_nil_of_length_eq_zero (by omega)
    subst h0
    exact .inl rfl
  | n + 1, s, h => by
    rw [linesM]
    by_cases h0 : s = []
    · rw [if_pos h0]; exact .inl (by rw [h0]; rfl)
    rw [if_neg h0]
    cases hc : crlf s with
    | none => exact .inr (by simp [flatE])
    | some i =>
      have hr := crlf_room hc
      have hsp := crlf_split hc
      have e : flatE (s.take i :: linesM n (s.drop (i + 2))) = s.take i ++ 13 :: 10 :: flatE (linesM n (s.drop (i + 2))) := by simp [flatE]
      simp only []
      rw [e]
      rcases flat_lines n (s.drop (i + 2)) (by rw [List.length_drop]; omega) with ih | ih
      · left; rw [ih]; exact hsp.symm
      · right
        rw [ih]
        conv => rhs; rw [hsp]
        simp
theorem lines_none : ∀ (n : Nat) (s : Bytes), ∀ x ∈ linesM n s, crlf x = none ∧ x.length ≤ s.length
  | 0, s => fun x hx => by cases hx
  | n + 1, s => by
    rw [linesM]
    by_cases h0 : s = []
    · rw [if_pos h0]; exact fun x hx => by cases hx
    rw [if_neg h0]
    cases hc : crlf s with
    | none => exact fun x hx => by rw [List.mem_singleton.1 hx]; exact ⟨hc, Nat.le_refl _⟩
    | some i =>
      simp only []
      intro x hx
      rcases List.mem_cons.1 hx with hx | hx
      · rw [hx]; exact ⟨crlf_take hc, by rw [List.length_take]; omega⟩
      · have := lines_none n (s.drop (i + 2)) x hx
        rw [List.length_drop] at this
        exact ⟨this.1, by omega⟩
theorem crlf_cons {c : UInt8} {r : Bytes} (h : crlf (c :: r) = none) : ¬ (c = 13 ∧ r.head? = some 10) ∧ crlf r = none := by
  rw [crlf] at h
  by_cases hc : c = 13 ∧ r.head? = some 10
  · rw [if_pos hc] at h; cases h
  · rw [if_neg hc] at h
    exact ⟨hc, Option.map_eq_none_iff.1 h⟩
end Go.Proofs.YtbjbpgmjijeppaaDoor.Pl
set_option linter.unusedVariables false
set_option linter.unusedSimpArgs false
namespace Go.Proofs.YtbjbpgmjijeppaaDoor.Pl
open Go.RowKit Go.Proofs.YtbjbpgmjijeppaaDoorW.PrintWords Go.Proofs.YtbjbpgmjijeppaaDoor.Fn

/-! Layer 14: so many addresses. -/
end Go.Proofs.YtbjbpgmjijeppaaDoor.Pl
set_option linter.unusedVariables false
namespace Go.Proofs.YtbjbpgmjijeppaaDoor.Pl
open Go.RowKit Go.Proofs.YtbjbpgmjijeppaaDoorW.PrintWords Go.Proofs.YtbjbpgmjijeppaaDoor.Fn
end Go.Proofs.YtbjbpgmjijeppaaDoor.Pl
namespace Go.Proofs.YtbjbpgmjijeppaaDoor.Fn
open Go.RowKit Go.Shelf Go.Proofs.YtbjbpgmjijeppaaDoorW.PrintWords

attribute [local go_sem] Oper.semAt_some

end Go.Proofs.YtbjbpgmjijeppaaDoor.Fn
namespace Go.Proofs.YtbjbpgmjijeppaaDoor.Fn
open Go.RowKit Go.Proofs.YtbjbpgmjijeppaaDoorW.PrintWords Go.Proofs.YtbjbpgmjijeppaaDoorW.PrintLast Go.Proofs.YtbjbpgmjijeppaaDoorW.PrintMore
attribute [local go_sem] max2_int min2_int max_two min_two max_three min_three max_four min_four
set_option linter.unusedVariables false
set_option linter.unusedSimpArgs false

/-! ### mbx_Show: function 11 -/
end Go.Proofs.YtbjbpgmjijeppaaDoor.Fn
namespace Go.Proofs.YtbjbpgmjijeppaaDoor.Fn
open Go.RowKit Go.Proofs.YtbjbpgmjijeppaaDoorW.PrintWords Go.Proofs.YtbjbpgmjijeppaaDoorW.PrintLast Go.Proofs.YtbjbpgmjijeppaaDoorW.PrintMore
attribute [local go_sem] max2_int min2_int max_two min_two max_three min_three max_four min_four
set_option linter.unusedVariables false
set_option linter.unusedSimpArgs false

/-! ### mbx_ShowAll: function 13 -/
end Go.Proofs.YtbjbpgmjijeppaaDoor.Fn
namespace Go.Proofs.YtbjbpgmjijeppaaDoor.Fn
open Go.RowKit Go.Proofs.YtbjbpgmjijeppaaDoorW.PrintWords Go.Proofs.YtbjbpgmjijeppaaDoorW.PrintLast Go.Proofs.YtbjbpgmjijeppaaDoorW.PrintMore
attribute [local go_sem] max2_int min2_int max_two min_two max_three min_three max_four min_four
set_option linter.unusedVariables false
set_option linter.unusedSimpArgs false

attribute [local go_sem high] eqA29
/-! ### bulletinlaw14_works: function 9 -/
end Go.Proofs.YtbjbpgmjijeppaaDoor.Fn
set_option linter.unusedVariables false
set_option linter.unusedSimpArgs false
namespace Go.Proofs.YtbjbpgmjijeppaaDoor.Pl
open Go.RowKit Go.Proofs.YtbjbpgmjijeppaaDoorW.PrintWords Go.Proofs.YtbjbpgmjijeppaaDoor.Fn

/-! Layer 14: what the program's functions compute -/
end Go.Proofs.YtbjbpgmjijeppaaDoor.Pl
set_option linter.unusedVariables false
namespace Go.Proofs.YtbjbpgmjijeppaaDoor.Pl
open Go.RowKit Go.Proofs.YtbjbpgmjijeppaaDoorW.PrintWords Go.Proofs.YtbjbpgmjijeppaaDoor.Fn
set_option maxRecDepth 100000 in
theorem works16 (k : Nat) (hk : 200 ≤ k) : bulletinlaw16_works.f k = some true := mono_up (fun k => bulletinlaw16_works.mono k) (show bulletinlaw16_works.f 200 = some true by decide +kernel) k hk
end Go.Proofs.YtbjbpgmjijeppaaDoor.Pl
set_option linter.unusedVariables false
set_option linter.unusedSimpArgs false
namespace Go.Proofs.YtbjbpgmjijeppaaDoor.Pl
open Go.RowKit Go.Proofs.YtbjbpgmjijeppaaDoorW.PrintWords Go.Proofs.YtbjbpgmjijeppaaDoor.Fn

theorem mjoins_l1 (s : ByteArray) (all x : Bytes) (L : List ByteArray) (n i : Int) (hx : x.length ≤ 3000) (ha : all.length ≤ 4000) : ∀ (r : Bytes) (j k : Nat), x.drop j = r → j ≤ x.length → crlf r = none → r.length < k →
    ∃ k', bulletinlaw16_MsgJoins.l1 k s (str all) (str x) (j : Int) L n i = bulletinlaw16_MsgJoins.l0 k' s (str (all ++ (x ++ [13, 10]))) L n (wrap64 (i + 1)) ∧ k ≤ k' + r.length + 1
  | r, j, 0, hd, hj, hc, hk => by omega
  | r, j, k + 1, hd, hj, hc, hk => by
    have hlen : r.length = x.length - j := by rw [← hd, List.length_drop]
    have hout : ¬ (j + 1 < x.length) → ∃ k', bulletinlaw16_MsgJoins.l1 (k + 1) s (str all) (str x) (j : Int) L n i = bulletinlaw16_MsgJoins.l0 k' s (str (all ++ (x ++ [13, 10]))) L n (wrap64 (i + 1)) ∧ k + 1 ≤ k' + r.length + 1 := fun h => by
      refine ⟨k, ?_, by omega⟩
      rw [bulletinlaw16_MsgJoins.l1, wrap_succ j (by omega), if_neg (by rw [str_size]; omega), str_lit #[13, 10], if_pos (by rw [str_size]; omega), str_app, if_pos (by rw [str_size, str_size]; simp only [List.length_append, List.length_cons, List.length_nil]; omega), str_app]
    match r, hd, hlen, hc, hk, hout with
    | [], hd, hlen, hc, hk, hout =>
      have h2 : ¬ (j + 1 < x.length) := by clear hout; simp only [List.length_nil] at hlen; omega
      exact hout h2
    | [c], hd, hlen, hc, hk, hout =>
      have h2 : ¬ (j + 1 < x.length) := by clear hout; simp only [List.length_cons, List.length_nil] at hlen; omega
      exact hout h2
    | c :: d :: r, hd, hlen, hc, hk, hout =>
      clear hout
      simp only [List.length_cons] at hlen hk
      obtain ⟨h1, h2⟩ := crlf_cons hc
      have hd' : (bs (str x)).drop j = c :: d :: r := by rw [bs_str]; exact hd
      have hd2 : x.drop (j + 1) = d :: r := by rw [← List.drop_drop, hd]; rfl
      have hd2' : (bs (str x)).drop (j + 1) = d :: r := by rw [bs_str]; exact hd2
      obtain ⟨k', e, hle⟩ := mjoins_l1 s all x L n i hx ha (d :: r) (j + 1) k hd2 (by omega) h2 (by simp only [List.length_cons]; omega)
      refine ⟨k', ?_, by simp only [List.length_cons] at hle ⊢; omega⟩
      rw [← e, bulletinlaw16_MsgJoins.l1, wrap_succ j (by omega), if_pos (by rw [str_size]; omega), if_pos (by omega), if_pos (by rw [str_size]; omega), bt_drop hd']
      by_cases h13 : c = 13
      · have h10 : ¬ d = 10 := fun q => h1 ⟨h13, by rw [q]; rfl⟩
        rw [if_pos (by rw [h13]; rfl), if_pos (by omega), bt_drop hd2', if_neg (by rw [show ((d.toNat : Int) = 10) = (d = 10) from byte_eq d 10 (by decide)]; exact h10)]
      · rw [if_neg (by rw [show ((c.toNat : Int) = 13) = (c = 13) from byte_eq c 13 (by decide)]; exact h13)]
theorem mjoins_l0 (M : Nat) (hM : M = 3002) (s : ByteArray) (hs : s.size ≤ 3000) (ls : List Bytes) (hn : ls.length ≤ 3000) (hx : ∀ x ∈ ls, crlf x = none ∧ x.length ≤ 3000) (hf : (flatE ls).length ≤ 3002) (hfl : flatE ls = bs s ∨ flatE ls = bs s ++ [13, 10]) :
    ∀ (r : List Bytes) (i k : Nat), ls.drop i = r → i ≤ ls.length → r.length * M < k → bulletinlaw16_MsgJoins.l0 k s (str (flatE (ls.take i))) (ls.map str) (ls.length : Int) (i : Int) = some true
  | [], i, k, hd, hi, hk => by
    obtain ⟨k, rfl⟩ : ∃ j, k = j + 1 := ⟨k - 1, by omega⟩
    have hz : ls.length ≤ i := by
      have := congrArg List.length hd
      rw [List.length_drop, List.length_nil] at this
      omega
    rw [bulletinlaw16_MsgJoins.l0, if_neg (by omega), List.take_of_length_le hz, toList_str, toList_bs]
    rcases hfl with h | h
    · rw [if_pos h]
    · rw [h]
      by_cases h0 : bs s ++ [13, 10] = bs s
      · rw [if_pos h0]
      · rw [if_neg h0, if_pos (by omega), toList_bs, bs_app]
        simp [bs]
  | x :: r, i, k, hd, hi, hk => by
    simp only [List.length_cons] at hk
    rw [Nat.succ_mul] at hk
    have hlt : i < ls.length := by
      have := congrArg List.length hd
      rw [List.length_drop, List.length_cons] at this
      omega
    obtain ⟨k, rfl⟩ : ∃ j, k = j + 1 := ⟨k - 1, by omega⟩
    have hmem : x ∈ ls := List.mem_of_mem_drop (i := i) (by rw [hd]; exact List.mem_cons_self)
    have hst : ls.take (i + 1) = ls.take i ++ [x] := by
      rw [List.take_succ_eq_append_getElem hlt]
      congr 2
      have := List.getElem?_drop (xs := ls) (i := i) (j := 0)
      rw [hd] at this
      simpa [List.getElem?_eq_getElem hlt] using this.symm
    have hfe : flatE ls = flatE (ls.take i) ++ flatE (ls.drop i) := by
      unfold flatE
      rw [← List.flatMap_append, List.take_append_drop]
    have hft : (flatE (ls.take i)).length ≤ 3002 := by
      rw [hfe, List.length_append] at hf
      omega
    have hrd : rdOf ByteArray.empty (ls.map str) (i : Int) = str x := by
      have h3 : ls[i]? = some x := by
        have := congrArg List.head? hd
        rw [List.head?_drop] at this
        exact this
      unfold rdOf
      rw [Int.toNat_natCast, List.getD_eq_getElem?_getD, List.getElem?_map, h3]
      rfl
    rw [bulletinlaw16_MsgJoins.l0, if_pos (by omega), if_pos (by omega), if_pos (by rw [List.length_map]; omega), hrd]
    have hxl := (hx x hmem).2
    obtain ⟨k', e, hle⟩ := mjoins_l1 s (flatE (ls.take i)) x (ls.map str) (ls.length : Int) (i : Int) hxl (by omega) x 0 k rfl (Nat.zero_le _) (hx x hmem).1 (by omega)
    rw [show ((0 : Nat) : Int) = 0 from rfl] at e
    rw [e, wrap_succ i (by omega), show flatE (ls.take i) ++ (x ++ [13, 10]) = flatE (ls.take (i + 1)) by rw [hst]; simp [flatE]]
    exact mjoins_l0 M hM s hs ls hn hx hf hfl r (i + 1) k' (by rw [← List.drop_drop, hd]; rfl) (by omega) (by omega)
theorem lines_count : ∀ (n : Nat) (s : Bytes), (linesM n s).length ≤ n
  | 0, s => by simp [linesM]
  | n + 1, s => by
    rw [linesM]
    split
    · simp
    · split
      · simp only [List.length_cons]; rename_i i _; have := lines_count n (s.drop (i + 2)); omega
      · simp
theorem MsgJoins (s : ByteArray) : ∃ k, bulletinlaw16_MsgJoins.f k s = some true := by
  refine ⟨100000000, ?_⟩
  generalize hK : (100000000 : Nat) = K
  unfold bulletinlaw16_MsgJoins.f
  rw [works16 K (by omega), Option.bind_some, if_pos rfl]
  by_cases h1 : (s.size : Int) > 3000
  · rw [if_pos h1]
  have hb := bs_length s
  have hfl := flat_lines (bs s).length (bs s) (Nat.le_refl _)
  have hct := lines_count (bs s).length (bs s)
  have hfn : (flatE (linesM (bs s).length (bs s))).length ≤ 3002 := by
    rcases hfl with h | h
    · rw [h]; omega
    · rw [h, List.length_append]; simp only [List.length_cons, List.length_nil]; omega
  rw [if_neg h1, msgLines_is _ s (by omega) K (by omega), Option.bind_some, List.length_map]
  have := mjoins_l0 3002 rfl s (by omega) (linesB (bs s)) (by unfold linesB; omega) (fun x hx => by have := lines_none _ _ x hx; exact ⟨this.1, by omega⟩) hfn hfl (linesB (bs s)) 0 K rfl (Nat.zero_le _) (by
    have : (linesB (bs s)).length ≤ 3000 := by unfold linesB; omega
    have : (linesB (bs s)).length * 3002 ≤ 3000 * 3002 := Nat.mul_le_mul_right _ this
    omega)
  exact this
end Go.Proofs.YtbjbpgmjijeppaaDoor.Pl
