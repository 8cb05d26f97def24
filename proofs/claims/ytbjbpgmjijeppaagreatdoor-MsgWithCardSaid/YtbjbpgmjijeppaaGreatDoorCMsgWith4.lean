/- A part of the proof of this sentence: Any message with a field put is as the document has it, and the message itself is as it was; the tables of unicode/utf8 are as the program's text lays them. -/
import Derived.Test.YtbjbpgmjijeppaaGreatDoorCMsgWith3
import Derived.Shelf.Strings.SlTrimAscii
import Derived.Lib.SliceRun
import Derived.Shelf.RegionOpenPlain
namespace Go.Proofs.YtbjbpgmjijeppaaGreatDoor.Fn
open Go.RowKit Go.Proofs.YtbjbpgmjijeppaaGreatDoorW.PrintWords Go.Proofs.YtbjbpgmjijeppaaGreatDoorW.PrintLast Go.Proofs.YtbjbpgmjijeppaaGreatDoorW.PrintMore
attribute [local go_sem] max2_int min2_int max_two min_two max_three min_three max_four min_four
set_option linter.unusedVariables false
set_option linter.unusedSimpArgs false

mutual
def head_grow.j0 : Nat → List (S46) → ByteArray → Bool → Option ((List (S46)) × Int)
 | 0, _, _, _ => none
 | k + 1, x0, x1, x13 => if x13 = true then (some (([] : List (S46)), 150)) else ((head_white.f x1).bind fun t108 => (if t108 = true then (if 0 ≤ (wrap64 ((x0.length : Int) - 1)) then (if (wrap64 ((x0.length : Int) - 1)) < (x0.length : Int) then (if ((rd_T46 x0 (wrap64 ((x0.length : Int) - 1))).f1).size + x1.size ≤ 9223372036854775807 then (some ((x0.set ((wrap64 ((x0.length : Int) - 1)) : Int).toNat (⟨(rd_T46 x0 (wrap64 ((x0.length : Int) - 1))).f0, ((rd_T46 x0 (wrap64 ((x0.length : Int) - 1))).f1) ++ x1⟩ : S46)), 0)) else (none)) else (none)) else (none)) else ((strings_Cut.f x1 (⟨#[58]⟩ : ByteArray)).bind fun bt111 => (if bt111.2.2 = true then ((head_named.f k bt111.1).bind fun t114 => (head_grow.j1 k x0 bt111.1 bt111.2.1 (!t114))) else (head_grow.j1 k x0 bt111.1 bt111.2.1 true)))))
def head_grow.j1 : Nat → List (S46) → ByteArray → ByteArray → Bool → Option ((List (S46)) × Int)
 | 0, _, _, _, _ => none
 | k + 1, x0, x6, x7, x47 => if x47 = true then (some (([] : List (S46)), 150)) else (if (x0.length : Int) = 100 then (some (([] : List (S46)), 8)) else (if x0.length < 4398046511104 then (some ((x0 ++ [(⟨x6, x7⟩ : S46)]), 0)) else (none)))
end
def head_grow.f (k : Nat) (l0 : List (S46)) (a1 : ByteArray) : Option ((List (S46)) × Int) := if (a1.size : Int) > 998 then (some (([] : List (S46)), 2)) else ((head_text.f k a1).bind fun t106 => (if t106 = true then ((head_white.f a1).bind fun t107 => (if t107 = true then (head_grow.j0 k l0 a1 ((l0.length : Int) == 0)) else (head_grow.j0 k l0 a1 false))) else (head_grow.j0 k l0 a1 true)))
theorem head_grow.mono_l : ∀ k, (∀ y0 y1 y2, LeO (head_grow.j0 k y0 y1 y2) (head_grow.j0 (k + 1) y0 y1 y2)) ∧ (∀ y0 y1 y2 y3, LeO (head_grow.j1 k y0 y1 y2 y3) (head_grow.j1 (k + 1) y0 y1 y2 y3))
 | 0 => ⟨fun _ _ _ r h => by simp [head_grow.j0] at h, fun _ _ _ _ r h => by simp [head_grow.j1] at h⟩
 | k + 1 => by
  obtain ⟨ih0, ih1⟩ := head_grow.mono_l k; refine ⟨?_, ?_⟩
  ·intro y0 y1 y2; unfold head_grow.j0
   repeat' first
   | (with_reducible exact ih0 _ _ _)
   | (with_reducible exact ih1 _ _ _ _)
   | (with_reducible exact head_named.mono _ _)
   | (with_reducible exact head_text.mono _ _)
   | (with_reducible exact LeO.refl _)
   | (with_reducible exact LeO.none _)
   | (with_reducible refine LeO.ite ?_ ?_)
   | (with_reducible refine LeO.bind ?_ (fun _ => ?_))
   | exact ih0 _ _ _
   | exact ih1 _ _ _ _
   | exact head_named.mono _ _
   | exact head_text.mono _ _
   | exact LeO.none _
   | refine LeO.ite ?_ ?_
   | refine LeO.bind ?_ (fun _ => ?_)
  ·intro y0 y1 y2 y3; unfold head_grow.j1
   repeat' first
   | (with_reducible exact ih0 _ _ _)
   | (with_reducible exact ih1 _ _ _ _)
   | (with_reducible exact head_named.mono _ _)
   | (with_reducible exact head_text.mono _ _)
   | (with_reducible exact LeO.refl _)
   | (with_reducible exact LeO.none _)
   | (with_reducible refine LeO.ite ?_ ?_)
   | (with_reducible refine LeO.bind ?_ (fun _ => ?_))
   | exact ih0 _ _ _
   | exact ih1 _ _ _ _
   | exact head_named.mono _ _
   | exact head_text.mono _ _
   | exact LeO.none _
   | refine LeO.ite ?_ ?_
   | refine LeO.bind ?_ (fun _ => ?_)
theorem head_grow.mono : ∀ a0 a1 k, LeO (head_grow.f k a0 a1) (head_grow.f (k + 1) a0 a1) := by
 intro a0 a1 k; obtain ⟨ih0, ih1⟩ := head_grow.mono_l k; unfold head_grow.f
 repeat' first
   | (with_reducible exact ih0 _ _ _)
   | (with_reducible exact ih1 _ _ _ _)
   | (with_reducible exact head_named.mono _ _)
   | (with_reducible exact head_text.mono _ _)
   | (with_reducible exact LeO.refl _)
   | (with_reducible exact LeO.none _)
   | (with_reducible refine LeO.ite ?_ ?_)
   | (with_reducible refine LeO.bind ?_ (fun _ => ?_))
   | exact ih0 _ _ _
   | exact ih1 _ _ _ _
   | exact head_named.mono _ _
   | exact head_text.mono _ _
   | exact LeO.none _
   | refine LeO.ite ?_ ?_
   | refine LeO.bind ?_ (fun _ => ?_)
set_option maxHeartbeats 8000000 in
set_option maxRecDepth 100000 in
theorem head_grow.calls (k : Nat) (P0_ : Nat → Prop) (u9000_ : Value) (l0 : List (S46)) (a1 : ByteArray) (r1 : List (S46)) (r2 : Int) (w0 w : World) (hG : Glob w0) (hB : Below w0.heap.size w0 w) (ho0 : Kd.R k46 46 w w0.heap.size P0_ u9000_ l0) (h : head_grow.f k l0 a1 = some (r1, r2)) :
  Calls Tryz.prog 60 #[u9000_, .string a1] w fun e w' => ∃ v0_ : Value, e = .returned (.tuple #[v0_, .int .i64 r2]) ∧ Kd.R k46 46 w' w0.heap.size (fun k_ => (P0_ k_ ∨ w.heap.size ≤ k_)) v0_ r1 ∧ Below w0.heap.size w0 w' ∧ Kept w w' (fun k_ => P0_ k_) := by
 have hu46 := Tryz.underlying46; have HO0 := Aside0.mk (show Kd.R k46 46 w w0.heap.size (fun k_ => (P0_ k_ ∨ w.heap.size ≤ k_)) u9000_ l0 from Kd.R_mono ho0 (fun k_ hk => (.inl hk))); have HK := Aside0.mk (Kept.refl w (fun k_ => P0_ k_)); have HW0 := Aside0.mk hB.size; have HB := Aside0.mk hB; clear hB; have H : (if (a1.size : Int) > 998 then (some (([] : List (S46)), 2)) else ((head_text.f k a1).bind fun t106 => (if t106 = true then ((head_white.f a1).bind fun t107 => (if t107 = true then (head_grow.j0 k l0 a1 ((l0.length : Int) == 0)) else (head_grow.j0 k l0 a1 false))) else (head_grow.j0 k l0 a1 true)))) = some (r1, r2) := h; clear h
 by_cases c3 : (a1.size : Int) > 998
 ·rw [if_pos c3] at H; have c3b0 : decide (998 < (a1.size : Int)) = true := decide_eq_true c3; have c3b1 : decide (998 < a1.size) = true := decide_eq_true (by omega); clear c3; simp only [Option.some.injEq, Prod.mk.injEq] at H; obtain ⟨rfl, rfl⟩ := H
  go_enter Tryz.func60, Tryz.ntmps60
  go_wp2
  go_ret2
  exact ⟨_, ew, by first | exact Kd.R_nil _ _ _ _ _ | exact Kd.N_nil _ _ _ _ _ | exact Kd.V_nil _ _ _ _ _ | exact Kd.Q_nil _ _ _ _ _ | exact Kd.S_nil _ _ _ _ _, bw, by repeat (first | (with_reducible first | exact HK.out | apply Kept.alloc | apply Kept.drewN | apply Kept.drew) | exact HK.out)⟩
 ·rw [if_neg c3] at H; have c3b0 : decide (998 < (a1.size : Int)) = false := decide_eq_false c3; have c3b1 : decide (998 < a1.size) = false := decide_eq_false (by omega); clear c3; have HC4 := Aside0.mk H; clear H
  go_enter Tryz.func60, Tryz.ntmps60
  go_upto_region 3 with (fail)
  go_cut [13] (fun v13 wc => ∃ (kq : Nat) (x13_3 : Bool), v13 = .bool x13_3 ∧ Aside0 (head_grow.j0 kq l0 a1 x13_3 = some (r1, r2)) ∧ Aside0 (kq ≤ k) ∧ Aside0 (Kd.R k46 46 wc w0.heap.size (fun k_ => (P0_ k_ ∨ w.heap.size ≤ k_)) u9000_ l0) ∧ Aside0 (Kept w wc (fun k_ => P0_ k_)) ∧ Aside0 (Below w0.heap.size w0 wc))
  case first =>
   have H := HC4.out; clear HC4; replace H := Option.bind_eq_some_iff.mp H; obtain ⟨t106, A50, H⟩ := H; replace H : (if t106 = true then ((head_white.f a1).bind fun t107 => (if t107 = true then (head_grow.j0 k l0 a1 ((l0.length : Int) == 0)) else (head_grow.j0 k l0 a1 false))) else (head_grow.j0 k l0 a1 true)) = some (r1, r2) := H; have A5 := Aside0.mk A50; clear A50
   by_cases c6 : t106 = true
   ·subst c6; have H1 : ((head_white.f a1).bind fun t107 => (if t107 = true then (head_grow.j0 k l0 a1 ((l0.length : Int) == 0)) else (head_grow.j0 k l0 a1 false))) = some (r1, r2) := by rw [if_pos rfl] at H; exact H
    clear H; have H := H1; clear H1; replace H := Option.bind_eq_some_iff.mp H; obtain ⟨t107, A70, H⟩ := H; replace H : (if t107 = true then (head_grow.j0 k l0 a1 ((l0.length : Int) == 0)) else (head_grow.j0 k l0 a1 false)) = some (r1, r2) := H; have A7 := Aside0.mk A70; clear A70
    by_cases c8 : t107 = true
    ·subst c8; have H1 : (head_grow.j0 k l0 a1 ((l0.length : Int) == 0)) = some (r1, r2) := by rw [if_pos rfl] at H; exact H
     clear H; have H := H1; clear H1; have H' := Aside0.mk H; clear H
     go_wp2_with (first | ((with_reducible refine gate_callee (f := 45) rfl ?_); refine goesL_ (some 15) rfl rfl Tryz.func45 (by kernel_rfl) rfl #[.string a1] rfl am ?_; (with_reducible refine (head_text.calls k a1 true _ A5.out).mono ?_); rintro e w' ⟨rfl, ⟨nd, rfl⟩⟩; refine ⟨_, rfl, ?_⟩) | (go_at_call 89; (with_reducible refine (head_white.calls a1 true _ A7.out).mono ?_); rintro e w' ⟨rfl, ⟨nd, rfl⟩⟩; obtain ⟨Ao9, co9, eo9⟩ := Kd.R_slice HO0.out; subst eo9))
     go_meet
     case rel => exact ⟨_, (((l0.length : Int) == 0)), cl, H', ⟨by first | omega | exact Nat.le_refl _⟩, ⟨by (with_reducible repeat (first | apply Kd.R_alloc | apply Kd.R_drewN | apply Kd.R_drew)); exact HO0.out⟩, ⟨by repeat (first | (with_reducible first | exact HK.out | apply Kept.alloc | apply Kept.drewN | apply Kept.drew) | exact HK.out)⟩, ⟨bw⟩⟩
    ·replace c8 := Bool.eq_false_iff.mpr c8; subst c8; have H1 : (head_grow.j0 k l0 a1 false) = some (r1, r2) := by rw [if_neg (show ¬ (false = true) by decide)] at H; exact H
     clear H; have H := H1; clear H1; have H' := Aside0.mk H; clear H
     go_wp2_with (first | ((with_reducible refine gate_callee (f := 45) rfl ?_); refine goesL_ (some 15) rfl rfl Tryz.func45 (by kernel_rfl) rfl #[.string a1] rfl am ?_; (with_reducible refine (head_text.calls k a1 true _ A5.out).mono ?_); rintro e w' ⟨rfl, ⟨nd, rfl⟩⟩; refine ⟨_, rfl, ?_⟩) | (go_at_call 89; (with_reducible refine (head_white.calls a1 false _ A7.out).mono ?_); rintro e w' ⟨rfl, ⟨nd, rfl⟩⟩))
     go_meet
     case rel => exact ⟨_, (false), cl, H', ⟨by first | omega | exact Nat.le_refl _⟩, ⟨by (with_reducible repeat (first | apply Kd.R_alloc | apply Kd.R_drewN | apply Kd.R_drew)); exact HO0.out⟩, ⟨by repeat (first | (with_reducible first | exact HK.out | apply Kept.alloc | apply Kept.drewN | apply Kept.drew) | exact HK.out)⟩, ⟨bw⟩⟩
   ·replace c6 := Bool.eq_false_iff.mpr c6; subst c6; have H1 : (head_grow.j0 k l0 a1 true) = some (r1, r2) := by rw [if_neg (show ¬ (false = true) by decide)] at H; exact H
    clear H; have H := H1; clear H1; have H' := Aside0.mk H; clear H
    go_wp2_with (first | ((with_reducible refine gate_callee (f := 45) rfl ?_); refine goesL_ (some 15) rfl rfl Tryz.func45 (by kernel_rfl) rfl #[.string a1] rfl am ?_; (with_reducible refine (head_text.calls k a1 false _ A5.out).mono ?_); rintro e w' ⟨rfl, ⟨nd, rfl⟩⟩; refine ⟨_, rfl, ?_⟩))
    go_meet
    case rel => exact ⟨_, (true), cl, H', ⟨by first | omega | exact Nat.le_refl _⟩, ⟨by (with_reducible repeat (first | apply Kd.R_alloc | apply Kd.R_drewN | apply Kd.R_drew)); exact HO0.out⟩, ⟨by repeat (first | (with_reducible first | exact HK.out | apply Kept.alloc | apply Kept.drewN | apply Kept.drew) | exact HK.out)⟩, ⟨bw⟩⟩
  case rest =>
   clear HC4
   try clear p2
   try clear c3
   try clear c3b0
   try clear c3b1
   try clear c4
   try clear c6
   try clear c8
   obtain ⟨kq, x13_3, rfl, HA, HJ3, HO_0, HK, HB⟩ := hcut; cases kq with
   | zero => exact absurd HA.out (by simp [head_grow.j0])
   | succ kj3 =>
    have H := HA.out; clear HA; simp only [head_grow.j0] at H
    by_cases c10 : x13_3 = true
    ·subst c10; have H1 : (some (([] : List (S46)), 150)) = some (r1, r2) := by rw [if_pos rfl] at H; exact H
     clear H; have H := H1; clear H1; simp only [Option.some.injEq, Prod.mk.injEq] at H; obtain ⟨rfl, rfl⟩ := H
     go_wp2
     go_ret2
     exact ⟨_, ew, by first | exact Kd.R_nil _ _ _ _ _ | exact Kd.N_nil _ _ _ _ _ | exact Kd.V_nil _ _ _ _ _ | exact Kd.Q_nil _ _ _ _ _ | exact Kd.S_nil _ _ _ _ _, bw, by repeat (first | (with_reducible first | exact HK.out | apply Kept.alloc | apply Kept.drewN | apply Kept.drew) | exact HK.out)⟩
    ·replace c10 := Bool.eq_false_iff.mpr c10; subst c10; have H1 : ((head_white.f a1).bind fun t108 => (if t108 = true then (if 0 ≤ (wrap64 ((l0.length : Int) - 1)) then (if (wrap64 ((l0.length : Int) - 1)) < (l0.length : Int) then (if ((rd_T46 l0 (wrap64 ((l0.length : Int) - 1))).f1).size + a1.size ≤ 9223372036854775807 then (some ((l0.set ((wrap64 ((l0.length : Int) - 1)) : Int).toNat (⟨(rd_T46 l0 (wrap64 ((l0.length : Int) - 1))).f0, ((rd_T46 l0 (wrap64 ((l0.length : Int) - 1))).f1) ++ a1⟩ : S46)), 0)) else (none)) else (none)) else (none)) else ((strings_Cut.f a1 (⟨#[58]⟩ : ByteArray)).bind fun bt111 => (if bt111.2.2 = true then ((head_named.f kj3 bt111.1).bind fun t114 => (head_grow.j1 kj3 l0 bt111.1 bt111.2.1 (!t114))) else (head_grow.j1 kj3 l0 bt111.1 bt111.2.1 true))))) = some (r1, r2) := by rw [if_neg (show ¬ (false = true) by decide)] at H; exact H
     clear H; have H := H1; clear H1; replace H := Option.bind_eq_some_iff.mp H; obtain ⟨t108, A110, H⟩ := H; replace H : (if t108 = true then (if 0 ≤ (wrap64 ((l0.length : Int) - 1)) then (if (wrap64 ((l0.length : Int) - 1)) < (l0.length : Int) then (if ((rd_T46 l0 (wrap64 ((l0.length : Int) - 1))).f1).size + a1.size ≤ 9223372036854775807 then (some ((l0.set ((wrap64 ((l0.length : Int) - 1)) : Int).toNat (⟨(rd_T46 l0 (wrap64 ((l0.length : Int) - 1))).f0, ((rd_T46 l0 (wrap64 ((l0.length : Int) - 1))).f1) ++ a1⟩ : S46)), 0)) else (none)) else (none)) else (none)) else ((strings_Cut.f a1 (⟨#[58]⟩ : ByteArray)).bind fun bt111 => (if bt111.2.2 = true then ((head_named.f kj3 bt111.1).bind fun t114 => (head_grow.j1 kj3 l0 bt111.1 bt111.2.1 (!t114))) else (head_grow.j1 kj3 l0 bt111.1 bt111.2.1 true)))) = some (r1, r2) := H; have A11 := Aside0.mk A110; clear A110
     by_cases c12 : t108 = true
     ·subst c12; have H1 : (if 0 ≤ (wrap64 ((l0.length : Int) - 1)) then (if (wrap64 ((l0.length : Int) - 1)) < (l0.length : Int) then (if ((rd_T46 l0 (wrap64 ((l0.length : Int) - 1))).f1).size + a1.size ≤ 9223372036854775807 then (some ((l0.set ((wrap64 ((l0.length : Int) - 1)) : Int).toNat (⟨(rd_T46 l0 (wrap64 ((l0.length : Int) - 1))).f0, ((rd_T46 l0 (wrap64 ((l0.length : Int) - 1))).f1) ++ a1⟩ : S46)), 0)) else (none)) else (none)) else (none)) = some (r1, r2) := by rw [if_pos rfl] at H; exact H
      clear H; have H := H1; clear H1; obtain ⟨ji13, hji13⟩ : ∃ j_ : Int, (wrap64 ((l0.length : Int) - 1)) = j_ := ⟨_, rfl⟩
      replace H : (if 0 ≤ (ji13) then (if (ji13) < (l0.length : Int) then (if ((rd_T46 l0 (ji13)).f1).size + a1.size ≤ 9223372036854775807 then (some ((l0.set ((ji13) : Int).toNat (⟨(rd_T46 l0 (ji13)).f0, ((rd_T46 l0 (ji13)).f1) ++ a1⟩ : S46)), 0)) else (none)) else (none)) else (none)) = some (r1, r2) := by first | (rw [hji13] at H; exact H) | (simp only [hji13] at H ⊢; exact H)
      (try rw [hji13] at A11)
      have hji13w : (IntKind.i64.wrap ((l0.length : Int) - 1)) = ji13 := (i64_w _).trans hji13
      by_cases c14 : 0 ≤ (ji13)
      ·rw [if_pos c14] at H; have c14b0 : decide (0 ≤ (ji13)) = true := decide_eq_true c14; clear c14
       by_cases c15 : (ji13) < (l0.length : Int)
       ·rw [if_pos c15] at H; have c15b0 : decide ((ji13) < (l0.length : Int)) = true := decide_eq_true c15; clear c15
        by_cases c16 : ((rd_T46 l0 (ji13)).f1).size + a1.size ≤ 9223372036854775807
        ·rw [if_pos c16] at H; have c16b0 := eq_true c16; have c16b1 : decide (((rd_T46 l0 (ji13)).f1).size + a1.size ≤ 9223372036854775807) = true := decide_eq_true c16
         try have c16b2 : (9223372036854775807 < ((rd_T46 l0 (ji13)).f1).size + a1.size) = False := eq_false (Nat.not_lt.2 c16)
         obtain ⟨y110, hy110⟩ : ∃ y_ : List (S46), y_ = (l0.set ((ji13) : Int).toNat (⟨(rd_T46 l0 (ji13)).f0, ((rd_T46 l0 (ji13)).f1) ++ a1⟩ : S46)) := ⟨_, rfl⟩
         replace H : (some (y110, 0)) = some (r1, r2) := by first | (rw [hy110]; with_reducible exact H) | (have H2_ := (Option.bind_some _ _).symm.trans H; rw [hy110]; with_reducible exact H2_) | (have H2_ := (Option.bind_some _ _).symm.trans H; with_reducible exact H2_) | with_reducible exact H | (rw [hy110]; exact H) | exact H
         have Ny110 := Aside0.mk hy110; clear hy110; simp only [Option.some.injEq, Prod.mk.injEq] at H; obtain ⟨rfl, rfl⟩ := H
         go_wp2_with (first | ((with_reducible refine gate_callee (f := 89) rfl ?_); refine goesL_ (some 28) rfl rfl Tryz.func89 (by kernel_rfl) rfl #[.string a1] rfl am ?_; (with_reducible refine (head_white.calls a1 true _ A11.out).mono ?_); rintro e w' ⟨rfl, ⟨nd, rfl⟩⟩; refine ⟨_, rfl, ?_⟩; (try (rw [drewN_self wc]; generalize hq_ : World.drewN wc _ = wc; have n0_ : Aside0 (Kd.R k46 46 wc w0.heap.size (fun k_ => (P0_ k_ ∨ w.heap.size ≤ k_)) u9000_ l0) := ⟨by rw [← hq_]; exact (ra HO_0.out)⟩; have n1_ : Aside0 (Kept w wc (fun k_ => P0_ k_)) := ⟨by rw [← hq_]; exact (by repeat (first | (with_reducible first | exact HK.out | apply Kept.alloc | apply Kept.drewN | apply Kept.drew) | exact HK.out))⟩; have n2_ : Aside0 (Below w0.heap.size w0 wc) := ⟨by rw [← hq_]; exact bw⟩; clear HO_0 HK HB hq_; have HO_0 := n0_; have HK := n1_; have HB := n2_; clear n0_ n1_ n2_)); obtain ⟨Ao18, co18, eo18⟩ := Kd.R_slice HO_0.out; subst eo18; have p109 : 0 ≤ ((ji13) : Int) := od; have q109 : (ji13) < (l0.length : Int) := od; obtain ⟨ad109, e109, hx109_0, hx109_1⟩ := at_T46 (Kd.R_reads' HO_0.out).2.2 (ji13) p109 q109; cases e109; replace p109 := eq_true p109; replace q109 := eq_true q109; have p17 : 0 ≤ ((ji13) : Int) := od; have q17 : ((ji13) : Int) < ((l0.length : Int) : Int) := od; obtain ⟨go17, co17, eo17, gb17, gl17, cl17, HG17⟩ := Kd.R_form HO_0.out (by omega); (first | cases eo17 | (injection eo17 with ea_ en_ ec_; (first | subst ea_ | (injection ea_ with ea_; subst ea_)); subst ec_; clear en_)); have GB17 := Aside0.mk gb17; have GG17 := Aside0.mk HG17; clear gb17 gl17 HG17; have HMgo17 := Aside0.mk (show (P0_ go17 ∨ w.heap.size ≤ go17) from (HO_0.out.1 _ rfl)); (first | simp only [add_plain] at hx109_0 | skip); (first | simp only [add_plain] at hx109_1 | skip); obtain ⟨ce17, hcl17, hM17, hcc17, hfr17⟩ := Kd.R_elem HO_0.out z46 ((ji13) : Int) p17 q17; obtain rfl := k46_openM hM17; have hx17_0 : wc.cell? ⟨go17, ((ji13) : Int).toNat * 2, none⟩ = some (.string ((rd_T46 l0 (ji13)).f0)) := hcc17 0 _ rfl; have hx17_1 : wc.cell? ⟨go17, ((ji13) : Int).toNat * 2 + 1, none⟩ = some (.string ((rd_T46 l0 (ji13)).f1)) := hcc17 1 _ rfl; have hf17_0 : wc.frozen? ⟨go17, ((ji13) : Int).toNat * 2, none⟩ = false := hfr17 0; have hf17_1 : wc.frozen? ⟨go17, ((ji13) : Int).toNat * 2 + 1, none⟩ = false := hfr17 1; clear hcl17 hcc17 hfr17 hM17; replace p17 := eq_true p17; replace q17 := eq_true q17; have HX19 := Aside0.mk (show Kd.R k46 46 wc w0.heap.size (fun k_ => (P0_ k_ ∨ w.heap.size ≤ k_)) (.slice (some ⟨go17, 0, none⟩) l0.length co18) l0 from (ra HO_0.out)); obtain ⟨ce19, hcl19, hM19, hcc19, hfr19⟩ := Kd.R_elem HX19.out z46 ((ji13) : Int) (od) (by have h_ : ((ji13) : Int) < ((l0.length : Int) : Int) := od; first | exact h_ | (have e_ := (Kd.R_reads' HO_0.out).1; omega) | simpa using h_); obtain rfl := k46_openM hM19; have HP19 := Kd.R_seg HX19.out ((ji13) : Int) (od) (by have h_ : ((ji13) : Int) < ((l0.length : Int) : Int) := od; first | exact h_ | (have e_ := (Kd.R_reads' HO_0.out).1; omega) | simpa using h_) (seg := [.string (((rd_T46 l0 (ji13)).f1) ++ a1)]) (j := 1) hcl19 hcc19 (show 2 ≤ 2 from by decide) (x' := (⟨(rd_T46 l0 (ji13)).f0, ((rd_T46 l0 (ji13)).f1) ++ a1⟩ : S46)) (k46_mkM _ _ _ (⟨(rd_T46 l0 (ji13)).f0, ((rd_T46 l0 (ji13)).f1) ++ a1⟩ : S46) ) (fun _ hk => hk); have hx19_1 := hcc19 1 _ rfl; (try simp only [show (k46).sz = 2 from rfl, Nat.mul_one, Nat.add_zero] at hx19_1); have hf19_1 := hfr19 1; (try simp only [show (k46).sz = 2 from rfl, Nat.mul_one, Nat.add_zero] at hf19_1); clear hcl19 hcc19 hfr19 hM19) | ((with_reducible refine gate_store (t := 9) (p := 39) rfl ?_); refine store_event (t := 9) (p := 39) (v := ?vo_w20) (w1 := (wc.setCell ⟨go17, ((ji13) : Int).toNat * 2 + 1, none⟩ (.string (((rd_T46 l0 (ji13)).f1) ++ a1)))) ?hg ?ho ?hn ?hr ?_; (case ho => rfl); (case hg => rfl); (case hn => rfl); (case hr => first | (go_simp; done) | (go_simp; rfl)); intro w20 hw; have hg : wc.grownBy w20 (some go17) := (by rw [hw]; exact HP19.2); have hp_ : Kd.R k46 46 w20 w0.heap.size (fun k_ => (P0_ k_ ∨ w.heap.size ≤ k_)) (.slice (some ⟨go17, 0, none⟩) l0.length co18) y110 := (by rw [hw, Ny110.out]; exact HP19.1); clear HP19; have n0_ := Aside0.mk (hp_); have n1_ := Aside0.mk ((by rw [hw]; exact below_set (HB.out) GB17.out : Below w0.heap.size w0 w20)); have n2_ := Aside0.mk (Kept.of_grown (S := (fun k_ => P0_ k_)) hg (by repeat (first | (with_reducible first | exact HK.out | apply Kept.alloc | apply Kept.drewN | apply Kept.drew) | exact HK.out)) (fun k_ e_ => (HO_0.out.1 k_ e_))); clear HO_0; clear HB; clear HK; have HO_0 := n0_; have HB := n1_; have HK := n2_; clear n0_ n1_ n2_; clear hg hw hp_))
         go_ret2
         exact ⟨_, by first | rfl | (simp [errW_none, errW_some] <;> rfl) | (simp only [← hji13]; first | rfl | (simp [errW_none, errW_some] <;> rfl)) | (simp [*, errW_none, errW_some] <;> rfl), by (with_reducible repeat (first | apply Kd.R_alloc | apply Kd.R_drewN | apply Kd.R_drew)); exact HO_0.out, bw, by repeat (first | (with_reducible first | exact HK.out | apply Kept.alloc | apply Kept.drewN | apply Kept.drew) | exact HK.out)⟩
        ·rw [if_neg c16] at H; exact absurd H (by simp)
       ·rw [if_neg c15] at H; exact absurd H (by simp)
      ·rw [if_neg c14] at H; exact absurd H (by simp)
     ·replace c12 := Bool.eq_false_iff.mpr c12; subst c12; have H1 : ((strings_Cut.f a1 (⟨#[58]⟩ : ByteArray)).bind fun bt111 => (if bt111.2.2 = true then ((head_named.f kj3 bt111.1).bind fun t114 => (head_grow.j1 kj3 l0 bt111.1 bt111.2.1 (!t114))) else (head_grow.j1 kj3 l0 bt111.1 bt111.2.1 true))) = some (r1, r2) := by rw [if_neg (show ¬ (false = true) by decide)] at H; exact H
      clear H; have H := H1; clear H1; replace H := Option.bind_eq_some_iff.mp H; obtain ⟨⟨t111, t112, t113⟩, A210, H⟩ := H; replace H : (if t113 = true then ((head_named.f kj3 t111).bind fun t114 => (head_grow.j1 kj3 l0 t111 t112 (!t114))) else (head_grow.j1 kj3 l0 t111 t112 true)) = some (r1, r2) := H; have A21 := Aside0.mk A210; clear A210; have HC22 := Aside0.mk H; clear H
      go_upto_region 9 with (first | ((with_reducible refine gate_callee (f := 89) rfl ?_); refine goesL_ (some 28) rfl rfl Tryz.func89 (by kernel_rfl) rfl #[.string a1] rfl am ?_; (with_reducible refine (head_white.calls a1 false _ A11.out).mono ?_); rintro e w' ⟨rfl, ⟨nd, rfl⟩⟩; refine ⟨_, rfl, ?_⟩) | ((with_reducible refine gate_callee (f := 41) rfl ?_); refine goesL_ (some 43) rfl rfl Tryz.func41 (by kernel_rfl) rfl #[.string a1, .string (⟨#[58]⟩ : ByteArray)] rfl am ?_; (with_reducible refine (strings_Cut.calls (hG := by first | exact hG | exact Glob.below hG (by first | exact HB.out | (repeat (first | (with_reducible first | exact HB.out | apply below_alloc | apply pw_below_drewN | apply below_drew1) | exact HB.out))) | exact Glob.drawn hG (d0)) a1 (⟨#[58]⟩ : ByteArray) t111 t112 t113 _ A21.out).mono ?_); rintro e w23 ⟨rfl, hb⟩; refine ⟨_, rfl, ?_⟩; have n0_ := Aside0.mk (Kd.R_below (ra HO_0.out) hb); have n1_ := Aside0.mk (Kept.below (S := (fun k_ => P0_ k_)) (by repeat (first | (with_reducible first | exact HK.out | apply Kept.alloc | apply Kept.drewN | apply Kept.drew) | exact HK.out)) hb); have n2_ := Aside0.mk (below_step bw hb); clear HO_0; clear HK; clear HB; have HO_0 := n0_; have HK := n1_; have HB := n2_; clear n0_ n1_ n2_; (try clear hb); (try clear hb2); (try clear hk); (try clear hi)))
      (try simp only [Act.put, List.setIfInBounds_toArray, List.set_cons_zero, List.set_cons_succ])
      go_cut [47] (fun v47 wc => ∃ (kq : Nat) (x47_21 : Bool), v47 = .bool x47_21 ∧ Aside0 (head_grow.j1 kq l0 t111 t112 x47_21 = some (r1, r2)) ∧ Aside0 (kq ≤ kj3) ∧ Aside0 (Kd.R k46 46 wc w0.heap.size (fun k_ => (P0_ k_ ∨ w.heap.size ≤ k_)) u9000_ l0) ∧ Aside0 (Kept w wc (fun k_ => P0_ k_)) ∧ Aside0 (Below w0.heap.size w0 wc))
      case first =>
       have H := HC22.out; clear HC22
       by_cases c24 : t113 = true
       ·subst c24; have H1 : ((head_named.f kj3 t111).bind fun t114 => (head_grow.j1 kj3 l0 t111 t112 (!t114))) = some (r1, r2) := by rw [if_pos rfl] at H; exact H
        clear H; have H := H1; clear H1; replace H := Option.bind_eq_some_iff.mp H; obtain ⟨t114, A250, H⟩ := H; replace H : (head_grow.j1 kj3 l0 t111 t112 (!t114)) = some (r1, r2) := H; have A25 := Aside0.mk A250; clear A250; have H' := Aside0.mk H; clear H
        go_wp2_with (first | (go_at_call 44; (with_reducible refine (head_named.calls kj3 t111 t114 _ A25.out).mono ?_); rintro e w' ⟨rfl, ⟨nd, rfl⟩⟩))
        go_meet
        case rel => exact ⟨_, (!t114), cl, H', ⟨by have := HJ3.out; first | omega | exact Nat.le_refl _⟩, ⟨by (with_reducible repeat (first | apply Kd.R_alloc | apply Kd.R_drewN | apply Kd.R_drew)); exact HO_0.out⟩, ⟨by repeat (first | (with_reducible first | exact HK.out | apply Kept.alloc | apply Kept.drewN | apply Kept.drew) | exact HK.out)⟩, ⟨bw⟩⟩
       ·replace c24 := Bool.eq_false_iff.mpr c24; subst c24; have H1 : (head_grow.j1 kj3 l0 t111 t112 true) = some (r1, r2) := by rw [if_neg (show ¬ (false = true) by decide)] at H; exact H
        clear H; have H := H1; clear H1; have H' := Aside0.mk H; clear H
        go_wp2
        go_meet
        case rel => exact ⟨_, (true), cl, H', ⟨by have := HJ3.out; first | omega | exact Nat.le_refl _⟩, ⟨by (with_reducible repeat (first | apply Kd.R_alloc | apply Kd.R_drewN | apply Kd.R_drew)); exact HO_0.out⟩, ⟨by repeat (first | (with_reducible first | exact HK.out | apply Kept.alloc | apply Kept.drewN | apply Kept.drew) | exact HK.out)⟩, ⟨bw⟩⟩
      case rest =>
       clear HC22
       try clear c1
       try clear p1
       try clear q1
       try clear hx1
       try clear c2
       try clear p2
       try clear c3
       try clear c3b0
       try clear c3b1
       try clear c4
       try clear c6
       try clear p6
       try clear c8
       try clear c10
       try clear p10
       try clear q10
       try clear hx10
       try clear c12
       try clear c14
       try clear c14b0
       try clear c15
       try clear c15b0
       try clear c16
       try clear c16b0
       try clear c16b1
       try clear c16b2
       try clear c17
       try clear p17
       try clear q17
       try clear hx17
       try clear hf17
       try clear c19
       try clear hx19
       try clear hf19
       try clear c24
       try clear hx109_0
       try clear hx109_1
       try clear hx17_0
       try clear hx17_1
       try clear hx19_1
       try clear p109
       try clear p17
       try clear p2
       try clear q109
       try clear q17
       obtain ⟨kq, x47_21, rfl, HA, HJ21, HO_0, HK, HB⟩ := hcut; cases kq with
       | zero => exact absurd HA.out (by simp [head_grow.j1])
       | succ kj21 =>
        have H := HA.out; clear HA; simp only [head_grow.j1] at H
        by_cases c26 : x47_21 = true
        ·subst c26; have H1 : (some (([] : List (S46)), 150)) = some (r1, r2) := by rw [if_pos rfl] at H; exact H
         clear H; have H := H1; clear H1; simp only [Option.some.injEq, Prod.mk.injEq] at H; obtain ⟨rfl, rfl⟩ := H
         go_wp2
         go_ret2
         exact ⟨_, ew, by first | exact Kd.R_nil _ _ _ _ _ | exact Kd.N_nil _ _ _ _ _ | exact Kd.V_nil _ _ _ _ _ | exact Kd.Q_nil _ _ _ _ _ | exact Kd.S_nil _ _ _ _ _, bw, by repeat (first | (with_reducible first | exact HK.out | apply Kept.alloc | apply Kept.drewN | apply Kept.drew) | exact HK.out)⟩
        ·replace c26 := Bool.eq_false_iff.mpr c26; subst c26; have H1 : (if (l0.length : Int) = 100 then (some (([] : List (S46)), 8)) else (if l0.length < 4398046511104 then (some ((l0 ++ [(⟨t111, t112⟩ : S46)]), 0)) else (none))) = some (r1, r2) := by rw [if_neg (show ¬ (false = true) by decide)] at H; exact H
         clear H; have H := H1; clear H1
         by_cases c27 : (l0.length : Int) = 100
         ·rw [if_pos c27] at H; have c27b0 : ((l0.length : Int) == 100) = true := beq_iff_eq.mpr c27; have c27b1 : ((l0.length : Int) != 100) = false := bne_eq_false_iff_eq.mpr c27; clear c27; simp only [Option.some.injEq, Prod.mk.injEq] at H; obtain ⟨rfl, rfl⟩ := H; obtain ⟨Ao28, co28, eo28⟩ := Kd.R_slice HO_0.out; subst eo28
          go_wp2
          go_ret2
          exact ⟨_, ew, by first | exact Kd.R_nil _ _ _ _ _ | exact Kd.N_nil _ _ _ _ _ | exact Kd.V_nil _ _ _ _ _ | exact Kd.Q_nil _ _ _ _ _ | exact Kd.S_nil _ _ _ _ _, bw, by repeat (first | (with_reducible first | exact HK.out | apply Kept.alloc | apply Kept.drewN | apply Kept.drew) | exact HK.out)⟩
         ·rw [if_neg c27] at H; have c27b0 : ((l0.length : Int) == 100) = false := beq_eq_false_iff_ne.mpr c27; have c27b1 : ((l0.length : Int) != 100) = true := bne_iff_ne.mpr c27
          by_cases c29 : l0.length < 4398046511104
          ·rw [if_pos c29] at H; have LMc29 := Aside0.mk c29; clear c29; obtain ⟨y115, hy115⟩ : ∃ y_ : List (S46), y_ = (l0 ++ [(⟨t111, t112⟩ : S46)]) := ⟨_, rfl⟩
           replace H : (some (y115, 0)) = some (r1, r2) := by first | (rw [hy115]; with_reducible exact H) | (have H2_ := (Option.bind_some _ _).symm.trans H; rw [hy115]; with_reducible exact H2_) | (have H2_ := (Option.bind_some _ _).symm.trans H; with_reducible exact H2_) | with_reducible exact H | (rw [hy115]; exact H) | exact H
           have Ny115 := Aside0.mk hy115; clear hy115; simp only [Option.some.injEq, Prod.mk.injEq] at H; obtain ⟨rfl, rfl⟩ := H; obtain ⟨Ao30, co30, eo30⟩ := Kd.R_slice HO_0.out; subst eo30
           go_wp2_with (first | ((with_reducible refine gate_builtin (b := .append) (xs := #[.tmp 59, .tmp 63]) rfl ?_); (try (refine gate_guard (by rfl) ?_; dsimp only)); at_builtin; refine Kd.R_append k46 (w0 := w0) w0.heap.size rfl (.tmp 59) (.tmp 63) 23 46 (.agg #[(.string ⟨#[]⟩), (.string ⟨#[]⟩)]) 32 rfl Tryz.underlying23 info46 rfl (by decide) (by omega) (.slice Ao30 l0.length co30) l0 (⟨t111, t112⟩ : S46) [.string t111, .string t112] (fun k_ => (P0_ k_ ∨ w.heap.size ≤ k_)) (fun _ => False) rfl rfl ?aP (fun _ hk => hk.elim) ?aF ?aO ?aB ?aS ?aL ?_; (case aP => exact k46_mkM _ _ _ (⟨t111, t112⟩ : S46)); (case aB => exact bw); (case aF => exact (fun k_ hk => (.inr (Nat.le_trans (by first | exact HK.out.1 | exact (show Kept w _ (fun k_ => P0_ k_) from by repeat (first | (with_reducible first | exact HK.out | apply Kept.alloc | apply Kept.drewN | apply Kept.drew) | exact HK.out)).1) hk)))); (case aO => exact (ra HO_0.out)); (case aS => exact (below_size bw)); (case aL => have := LMc29.out; omega); intro v116 w31 ho hb hg hat; rw [← Ny115.out] at ho; have n0_ := Aside0.mk (hb); have n1_ := Aside0.mk (Kept.of_grown (S := (fun k_ => P0_ k_)) hg (by repeat (first | (with_reducible first | exact HK.out | apply Kept.alloc | apply Kept.drewN | apply Kept.drew) | exact HK.out)) (fun k_ e_ => (HO_0.out.1 k_ e_))); have n2_ := Aside0.mk (ho); clear HB; clear HK; clear HO_0; have HB := n0_; have HK := n1_; have HO117 := n2_; clear n0_ n1_ n2_; clear ho hb hg hat))
           go_ret2
           exact ⟨_, ew, by (with_reducible repeat (first | apply Kd.R_alloc | apply Kd.R_drewN | apply Kd.R_drew)); exact HO117.out, bw, by repeat (first | (with_reducible first | exact HK.out | apply Kept.alloc | apply Kept.drewN | apply Kept.drew) | exact HK.out)⟩
          ·rw [if_neg c29] at H; exact absurd H (by simp)

end Go.Proofs.YtbjbpgmjijeppaaGreatDoor.Fn
set_option linter.unusedVariables false
namespace Go.Proofs.YtbjbpgmjijeppaaGreatDoor.Fn
open Go.RowKit Go.Proofs.YtbjbpgmjijeppaaGreatDoorW.PrintWords

def strings_Trim.f (a0 a1 : ByteArray) : Option ByteArray :=
 if a0.size ≤ 140737488355328 then (if a1.size ≤ 1000 then (if a1.data.toList.all (fun b => decide (b.toNat < 128)) = true then some (Pl.str (Lib.trimS a0.data.toList a1.data.toList)) else none) else none) else none
theorem strings_Trim.calls (a0 a1 r : ByteArray) (w : World) (h : strings_Trim.f a0 a1 = some r) :
  Calls Tryz.prog 70 #[.string a0, .string a1] w fun e w' => e = .returned (.string r) ∧ Below w.heap.size w w' := by
 unfold strings_Trim.f at h
 by_cases hs : a0.size ≤ 140737488355328
 ·rw [if_pos hs] at h
  by_cases hc : a1.size ≤ 1000
  ·rw [if_pos hc] at h
   by_cases ha : a1.data.toList.all (fun b => decide (b.toNat < 128)) = true
   ·rw [if_pos ha] at h
    have HR := Option.some.inj h
    subst HR
    exact Any.strings_Trim_laid Tryz.lays160 (by kernel_rfl) a0 a1 w (by omega) (by omega) (ascii_of_all ha)
   ·rw [if_neg ha] at h; exact absurd h (by simp)
  ·rw [if_neg hc] at h; exact absurd h (by simp)
 ·rw [if_neg hs] at h; exact absurd h (by simp)
end Go.Proofs.YtbjbpgmjijeppaaGreatDoor.Fn
namespace Go.Proofs.YtbjbpgmjijeppaaGreatDoor.Fn
open Go.RowKit Go.Proofs.YtbjbpgmjijeppaaGreatDoorW.PrintWords Go.Proofs.YtbjbpgmjijeppaaGreatDoorW.PrintLast Go.Proofs.YtbjbpgmjijeppaaGreatDoorW.PrintMore
attribute [local go_sem] max2_int min2_int max_two min_two max_three min_three max_four min_four
set_option linter.unusedVariables false
set_option linter.unusedSimpArgs false

def head_trim.f (a0 : ByteArray) : Option (ByteArray) := (strings_Trim.f a0 (⟨#[32, 9]⟩ : ByteArray)).bind fun t105 => (some t105)
set_option maxHeartbeats 8000000 in
set_option maxRecDepth 100000 in
theorem head_trim.calls (a0 : ByteArray) (r : ByteArray) (w : World) (h : head_trim.f a0 = some r) :
  Calls Tryz.prog 46 #[.string a0] w fun e w' => e = .returned (.string r) ∧ Below w.heap.size w w' := by
 have HB := Aside0.mk (Below.refl w.heap.size w); have H : ((strings_Trim.f a0 (⟨#[32, 9]⟩ : ByteArray)).bind fun t105 => (some t105)) = some r := h; clear h; replace H := Option.bind_eq_some_iff.mp H; obtain ⟨t105, A20, H⟩ := H; replace H : (some t105) = some r := H; have A2 := Aside0.mk A20; clear A20; obtain rfl := Option.some.inj H
 go_enter Tryz.func46, Tryz.ntmps46
 go_wp2_with (first | ((with_reducible refine gate_callee (f := 70) rfl ?_); refine goesL_ (some 4) rfl rfl Tryz.func70 (by kernel_rfl) rfl #[.string a0, .string (⟨#[32, 9]⟩ : ByteArray)] rfl am ?_; (with_reducible refine (strings_Trim.calls a0 (⟨#[32, 9]⟩ : ByteArray) t105 _ A2.out).mono ?_); rintro e w3 ⟨rfl, hb⟩; refine ⟨_, rfl, ?_⟩; have n0_ := Aside0.mk (below_step bw hb); clear HB; have HB := n0_; clear n0_; (try clear hb); (try clear hb2); (try clear hk); (try clear hi)))
 go_ret
 exact ⟨ew, bw⟩

end Go.Proofs.YtbjbpgmjijeppaaGreatDoor.Fn
namespace Go.Proofs.YtbjbpgmjijeppaaGreatDoor.Fn
open Go.RowKit Go.Proofs.YtbjbpgmjijeppaaGreatDoorW.PrintWords Go.Proofs.YtbjbpgmjijeppaaGreatDoorW.PrintLast Go.Proofs.YtbjbpgmjijeppaaGreatDoorW.PrintMore
attribute [local go_sem] max2_int min2_int max_two min_two max_three min_three max_four min_four
set_option linter.unusedVariables false
set_option linter.unusedSimpArgs false

mutual
def head_Parse.j1 : Nat → List (S46) → ByteArray → Option ((List (S46)) × ByteArray × Int)
 | 0, _, _ => none
 | k + 1, x2, x3 => head_Parse.l1 k x2 x3 (x2.length : Int) 0
def head_Parse.l1 : Nat → List (S46) → ByteArray → Int → Int → Option ((List (S46)) × ByteArray × Int)
 | 0, _, _, _, _ => none
 | k + 1, x2, x3, x33, x34 => if x34 < x33 then (if 0 ≤ x34 then (if x34 < (x2.length : Int) then ((head_trim.f ((rd_T46 x2 x34).f1)).bind fun t126 => (head_Parse.l1 k (x2.set (x34 : Int).toNat (⟨(rd_T46 x2 x34).f0, t126⟩ : S46)) x3 x33 (wrap64 (x34 + 1)))) else (none)) else (none)) else (some (x2, x3, 0))
def head_Parse.l0 : Nat → ByteArray → List (S46) → ByteArray → Option ((List (S46)) × ByteArray × Int)
 | 0, _, _, _ => none
 | k + 1, x0, x2, x3 => if x0.toList = ([] : List UInt8) then (head_Parse.j1 k x2 x3) else ((strings_Cut.f x0 (⟨#[13, 10]⟩ : ByteArray)).bind fun bt118 => (if bt118.2.2 = true then (if bt118.1.toList = ([] : List UInt8) then (head_Parse.j1 k x2 bt118.2.1) else ((head_grow.f k x2 bt118.1).bind fun bt121 => (if bt121.2 = 0 then (head_Parse.l0 k bt118.2.1 bt121.1 x3) else (some (([] : List (S46)), (⟨#[]⟩ : ByteArray), bt121.2))))) else (some (([] : List (S46)), (⟨#[]⟩ : ByteArray), 9))))
end
def head_Parse.f (k : Nat) (a0 : ByteArray) : Option ((List (S46)) × ByteArray × Int) := head_Parse.l0 k a0 ([] : List (S46)) (⟨#[]⟩ : ByteArray)
theorem head_Parse.mono_l : ∀ k, (∀ y0 y1, LeO (head_Parse.j1 k y0 y1) (head_Parse.j1 (k + 1) y0 y1)) ∧ (∀ y0 y1 y2 y3, LeO (head_Parse.l1 k y0 y1 y2 y3) (head_Parse.l1 (k + 1) y0 y1 y2 y3)) ∧ (∀ y0 y1 y2, LeO (head_Parse.l0 k y0 y1 y2) (head_Parse.l0 (k + 1) y0 y1 y2))
 | 0 => ⟨fun _ _ r h => by simp [head_Parse.j1] at h, fun _ _ _ _ r h => by simp [head_Parse.l1] at h, fun _ _ _ r h => by simp [head_Parse.l0] at h⟩
 | k + 1 => by
  obtain ⟨ih0, ih1, ih2⟩ := head_Parse.mono_l k; refine ⟨?_, ?_, ?_⟩
  ·intro y0 y1; unfold head_Parse.j1
   repeat' first
   | (with_reducible exact ih0 _ _)
   | (with_reducible exact ih1 _ _ _ _)
   | (with_reducible exact ih2 _ _ _)
   | (with_reducible exact head_grow.mono _ _ _)
   | (with_reducible exact LeO.refl _)
   | (with_reducible exact LeO.none _)
   | (with_reducible refine LeO.ite ?_ ?_)
   | (with_reducible refine LeO.bind ?_ (fun _ => ?_))
   | exact ih0 _ _
   | exact ih1 _ _ _ _
   | exact ih2 _ _ _
   | exact head_grow.mono _ _ _
   | exact LeO.none _
   | refine LeO.ite ?_ ?_
   | refine LeO.bind ?_ (fun _ => ?_)
  ·intro y0 y1 y2 y3; unfold head_Parse.l1
   repeat' first
   | (with_reducible exact ih0 _ _)
   | (with_reducible exact ih1 _ _ _ _)
   | (with_reducible exact ih2 _ _ _)
   | (with_reducible exact head_grow.mono _ _ _)
   | (with_reducible exact LeO.refl _)
   | (with_reducible exact LeO.none _)
   | (with_reducible refine LeO.ite ?_ ?_)
   | (with_reducible refine LeO.bind ?_ (fun _ => ?_))
   | exact ih0 _ _
   | exact ih1 _ _ _ _
   | exact ih2 _ _ _
   | exact head_grow.mono _ _ _
   | exact LeO.none _
   | refine LeO.ite ?_ ?_
   | refine LeO.bind ?_ (fun _ => ?_)
  ·intro y0 y1 y2; unfold head_Parse.l0
   repeat' first
   | (with_reducible exact ih0 _ _)
   | (with_reducible exact ih1 _ _ _ _)
   | (with_reducible exact ih2 _ _ _)
   | (with_reducible exact head_grow.mono _ _ _)
   | (with_reducible exact LeO.refl _)
   | (with_reducible exact LeO.none _)
   | (with_reducible refine LeO.ite ?_ ?_)
   | (with_reducible refine LeO.bind ?_ (fun _ => ?_))
   | exact ih0 _ _
   | exact ih1 _ _ _ _
   | exact ih2 _ _ _
   | exact head_grow.mono _ _ _
   | exact LeO.none _
   | refine LeO.ite ?_ ?_
   | refine LeO.bind ?_ (fun _ => ?_)
theorem head_Parse.mono : ∀ a0 k, LeO (head_Parse.f k a0) (head_Parse.f (k + 1) a0) := by
 intro a0 k; obtain ⟨ih0, ih1, ih2⟩ := head_Parse.mono_l k; unfold head_Parse.f
 repeat' first
   | (with_reducible exact ih0 _ _)
   | (with_reducible exact ih1 _ _ _ _)
   | (with_reducible exact ih2 _ _ _)
   | (with_reducible exact head_grow.mono _ _ _)
   | (with_reducible exact LeO.refl _)
   | (with_reducible exact LeO.none _)
   | (with_reducible refine LeO.ite ?_ ?_)
   | (with_reducible refine LeO.bind ?_ (fun _ => ?_))
   | exact ih0 _ _
   | exact ih1 _ _ _ _
   | exact ih2 _ _ _
   | exact head_grow.mono _ _ _
   | exact LeO.none _
   | refine LeO.ite ?_ ?_
   | refine LeO.bind ?_ (fun _ => ?_)
set_option maxHeartbeats 8000000 in
set_option maxRecDepth 100000 in
theorem head_Parse.calls (k : Nat) (a0 : ByteArray) (r1 : List (S46)) (r2 : ByteArray) (r3 : Int) (w : World) (hG : Glob w) (h : head_Parse.f k a0 = some (r1, r2, r3)) :
  Calls Tryz.prog 36 #[.string a0] w fun e w' => ∃ v0_ : Value, e = .returned (.tuple #[v0_, .string r2, .int .i64 r3]) ∧ Kd.R k46 46 w' w.heap.size (fun _ => True) v0_ r1 ∧ Below w.heap.size w w' := by
 have HB := Aside0.mk (Below.refl w.heap.size w); have H : (head_Parse.l0 k a0 ([] : List (S46)) (⟨#[]⟩ : ByteArray)) = some (r1, r2, r3) := h; clear h; have HC2 := Aside0.mk H; clear H
 go_enter Tryz.func36, Tryz.ntmps36
 go_upto_block 0 with (fail)
 go_cut [2, 3] (fun v2 v3 wc => ∃ (kq : Nat) (x2_1 : List (S46)) (x3_1 : ByteArray), v3 = .string x3_1 ∧ Aside0 (head_Parse.j1 kq x2_1 x3_1 = some (r1, r2, r3)) ∧ Aside0 (kq ≤ k) ∧ Aside0 (Kd.R k46 46 wc w.heap.size (fun _ => True) v2 x2_1) ∧ Aside0 (Below w.heap.size w wc))
 case first =>
  have H := HC2.out; clear HC2; have H' := Aside0.mk H; clear H
  go_wp2
  go_loopg [0, 2, 3] k (fun kq v0 v2 v3 w' => ∃ (x0_1 : ByteArray) (x2_1 : List (S46)) (x3_1 : ByteArray), v0 = .string x0_1 ∧ v3 = .string x3_1 ∧ Aside0 (head_Parse.l0 kq x0_1 x2_1 x3_1 = some (r1, r2, r3)) ∧ Aside0 (kq ≤ k) ∧ Aside0 (Kd.R k46 46 w' w.heap.size (fun _ => True) v2 x2_1) ∧ Aside0 (Below w.heap.size w w'))
  case atStart => exact ⟨(a0), (([] : List (S46))), ((⟨#[]⟩ : ByteArray)), cl, cl, H', ⟨Nat.le_refl _⟩, ⟨by first | exact Kd.R_nil _ _ _ _ _ | exact Kd.N_nil _ _ _ _ _ | exact Kd.V_nil _ _ _ _ _ | exact Kd.Q_nil _ _ _ _ _ | exact Kd.S_nil _ _ _ _ _⟩, ⟨bw⟩⟩
  case round =>
   clear H'
   try clear p2
   obtain ⟨x0_1, x2_1, x3_1, rfl, rfl, HA, HK1, HO_2, HB⟩ := hrel; cases gk with
   | zero => exact absurd HA.out (by simp [head_Parse.l0])
   | succ k1 =>
    have H := HA.out; clear HA; simp only [head_Parse.l0] at H
    by_cases c3 : x0_1.toList = ([] : List UInt8)
    ·rw [if_pos c3] at H; have c3b0 : (x0_1.toList == ([] : List UInt8)) = true := beq_iff_eq.mpr c3; have c3b1 : (x0_1.toList != ([] : List UInt8)) = false := bne_eq_false_iff_eq.mpr c3; clear c3
     (first | rw [c3b0] | (simp only [i64_w, i32_w]; rw [c3b0]) | skip)
     have H' := Aside0.mk H; clear H
     go_wp2
     go_meet
     case rel => exact ⟨_, (x2_1), (x3_1), cl, H', ⟨by have := HK1.out; first | omega | exact Nat.le_refl _⟩, ⟨by (with_reducible repeat (first | apply Kd.R_alloc | apply Kd.R_drewN | apply Kd.R_drew)); exact HO_2.out⟩, ⟨bw⟩⟩
    ·rw [if_neg c3] at H; have c3b0 : (x0_1.toList == ([] : List UInt8)) = false := beq_eq_false_iff_ne.mpr c3; have c3b1 : (x0_1.toList != ([] : List UInt8)) = true := bne_iff_ne.mpr c3
     (first | rw [c3b0] | (simp only [i64_w, i32_w]; rw [c3b0]) | skip)
     replace H := Option.bind_eq_some_iff.mp H; obtain ⟨⟨t118, t119, t120⟩, A40, H⟩ := H; replace H : (if t120 = true then (if t118.toList = ([] : List UInt8) then (head_Parse.j1 k1 x2_1 t119) else ((head_grow.f k1 x2_1 t118).bind fun bt121 => (if bt121.2 = 0 then (head_Parse.l0 k1 t119 bt121.1 x3_1) else (some (([] : List (S46)), (⟨#[]⟩ : ByteArray), bt121.2))))) else (some (([] : List (S46)), (⟨#[]⟩ : ByteArray), 9))) = some (r1, r2, r3) := H; have A4 := Aside0.mk A40; clear A40
     by_cases c5 : t120 = true
     ·subst c5; have H1 : (if t118.toList = ([] : List UInt8) then (head_Parse.j1 k1 x2_1 t119) else ((head_grow.f k1 x2_1 t118).bind fun bt121 => (if bt121.2 = 0 then (head_Parse.l0 k1 t119 bt121.1 x3_1) else (some (([] : List (S46)), (⟨#[]⟩ : ByteArray), bt121.2))))) = some (r1, r2, r3) := by rw [if_pos rfl] at H; exact H
      clear H; have H := H1; clear H1
      by_cases c6 : t118.toList = ([] : List UInt8)
      ·rw [if_pos c6] at H; have c6b0 : (t118.toList == ([] : List UInt8)) = true := beq_iff_eq.mpr c6; have c6b1 : (t118.toList != ([] : List UInt8)) = false := bne_eq_false_iff_eq.mpr c6; clear c6; have H' := Aside0.mk H; clear H
       go_wp2_with (first | ((with_reducible refine gate_callee (f := 41) rfl ?_); refine goesL_ (some 13) rfl rfl Tryz.func41 (by kernel_rfl) rfl #[.string x0_1, .string (⟨#[13, 10]⟩ : ByteArray)] rfl am ?_; (with_reducible refine (strings_Cut.calls (hG := by first | exact hG | exact Glob.below hG (by first | exact HB.out | (repeat (first | (with_reducible first | exact HB.out | apply below_alloc | apply pw_below_drewN | apply below_drew1) | exact HB.out))) | exact Glob.drawn hG (d0)) x0_1 (⟨#[13, 10]⟩ : ByteArray) t118 t119 true _ A4.out).mono ?_); rintro e w7 ⟨rfl, hb⟩; refine ⟨_, rfl, ?_⟩; have n0_ := Aside0.mk (Kd.R_below (ra HO_2.out) hb); have n1_ := Aside0.mk (below_step bw hb); clear HO_2; clear HB; have HO_2 := n0_; have HB := n1_; clear n0_ n1_; (try clear hb); (try clear hb2); (try clear hk); (try clear hi)))
       go_meet
       case rel => exact ⟨_, (x2_1), (t119), cl, H', ⟨by have := HK1.out; first | omega | exact Nat.le_refl _⟩, ⟨by (with_reducible repeat (first | apply Kd.R_alloc | apply Kd.R_drewN | apply Kd.R_drew)); exact HO_2.out⟩, ⟨bw⟩⟩
      ·rw [if_neg c6] at H; have c6b0 : (t118.toList == ([] : List UInt8)) = false := beq_eq_false_iff_ne.mpr c6; have c6b1 : (t118.toList != ([] : List UInt8)) = true := bne_iff_ne.mpr c6; replace H := Option.bind_eq_some_iff.mp H; obtain ⟨⟨t121, t124⟩, A80, H⟩ := H; replace H : (if t124 = 0 then (head_Parse.l0 k1 t119 t121 x3_1) else (some (([] : List (S46)), (⟨#[]⟩ : ByteArray), t124))) = some (r1, r2, r3) := H; have A8 := Aside0.mk A80; clear A80
       by_cases c9 : t124 = 0
       ·rw [if_pos c9] at H; have c9b0 : (t124 == 0) = true := beq_iff_eq.mpr c9; have c9b1 : (t124 != 0) = false := bne_eq_false_iff_eq.mpr c9; clear c9; have H' := Aside0.mk H; clear H
        go_wp2_with (first | ((with_reducible refine gate_callee (f := 41) rfl ?_); refine goesL_ (some 13) rfl rfl Tryz.func41 (by kernel_rfl) rfl #[.string x0_1, .string (⟨#[13, 10]⟩ : ByteArray)] rfl am ?_; (with_reducible refine (strings_Cut.calls (hG := by first | exact hG | exact Glob.below hG (by first | exact HB.out | (repeat (first | (with_reducible first | exact HB.out | apply below_alloc | apply pw_below_drewN | apply below_drew1) | exact HB.out))) | exact Glob.drawn hG (d0)) x0_1 (⟨#[13, 10]⟩ : ByteArray) t118 t119 true _ A4.out).mono ?_); rintro e w10 ⟨rfl, hb⟩; refine ⟨_, rfl, ?_⟩; have n0_ := Aside0.mk (Kd.R_below (ra HO_2.out) hb); have n1_ := Aside0.mk (below_step bw hb); clear HO_2; clear HB; have HO_2 := n0_; have HB := n1_; clear n0_ n1_; (try clear hb); (try clear hb2); (try clear hk); (try clear hi); obtain ⟨Ao11, co11, eo11⟩ := Kd.R_slice HO_2.out; subst eo11) | ((with_reducible refine gate_callee (f := 60) rfl ?_); refine goesL_ (some 26) rfl rfl Tryz.func60 (by kernel_rfl) rfl #[.slice Ao11 x2_1.length co11, .string t118] rfl am ?_; (with_reducible refine (head_grow.calls (hG := by first | exact hG | exact Glob.below hG (by first | exact HB.out | (repeat (first | (with_reducible first | exact HB.out | apply below_alloc | apply pw_below_drewN | apply below_drew1) | exact HB.out))) | exact Glob.drawn hG (d0)) k1 (fun k_ => some k_ = (.slice Ao11 x2_1.length co11 : Value).ownBlock) (.slice Ao11 x2_1.length co11) x2_1 t118 t121 t124 w _ ?side1 ?side2 A8.out).mono ?_); (case side1 => repeat (first | (with_reducible first | exact HB.out | apply below_alloc | apply pw_below_drewN | apply below_drew1) | exact HB.out)); (case side2 => exact Kd.R_tight rfl HO_2.out); rintro e w12 ⟨v122, rfl, ho0, hb, hkp⟩; refine ⟨_, rfl, ?_⟩; have n0_ := Aside0.mk (Kd.R_mono (ok' := fun k_ => True) ho0 (fun k_ hk_ => trivial)); have n1_ := Aside0.mk (hb); clear HB; clear HO_2; have HO123 := n0_; have HB := n1_; clear n0_ n1_; (try clear hb); (try clear hkp); (try clear ho0)))
        go_roundg k1
        case measure => have := HK1.out; omega
        case rel => exact ⟨(t119), (t121), (x3_1), cl, cl, H', ⟨by have := HK1.out; omega⟩, ⟨by (with_reducible repeat (first | apply Kd.R_alloc | apply Kd.R_drewN | apply Kd.R_drew)); exact HO123.out⟩, ⟨bw⟩⟩
       ·rw [if_neg c9] at H; have c9b0 : (t124 == 0) = false := beq_eq_false_iff_ne.mpr c9; have c9b1 : (t124 != 0) = true := bne_iff_ne.mpr c9; simp only [Option.some.injEq, Prod.mk.injEq] at H; obtain ⟨rfl, rfl, rfl⟩ := H
        go_wp2_with (first | ((with_reducible refine gate_callee (f := 41) rfl ?_); refine goesL_ (some 13) rfl rfl Tryz.func41 (by kernel_rfl) rfl #[.string x0_1, .string (⟨#[13, 10]⟩ : ByteArray)] rfl am ?_; (with_reducible refine (strings_Cut.calls (hG := by first | exact hG | exact Glob.below hG (by first | exact HB.out | (repeat (first | (with_reducible first | exact HB.out | apply below_alloc | apply pw_below_drewN | apply below_drew1) | exact HB.out))) | exact Glob.drawn hG (d0)) x0_1 (⟨#[13, 10]⟩ : ByteArray) t118 t119 true _ A4.out).mono ?_); rintro e w13 ⟨rfl, hb⟩; refine ⟨_, rfl, ?_⟩; have n0_ := Aside0.mk (Kd.R_below (ra HO_2.out) hb); have n1_ := Aside0.mk (below_step bw hb); clear HO_2; clear HB; have HO_2 := n0_; have HB := n1_; clear n0_ n1_; (try clear hb); (try clear hb2); (try clear hk); (try clear hi); obtain ⟨Ao14, co14, eo14⟩ := Kd.R_slice HO_2.out; subst eo14) | ((with_reducible refine gate_callee (f := 60) rfl ?_); refine goesL_ (some 26) rfl rfl Tryz.func60 (by kernel_rfl) rfl #[.slice Ao14 x2_1.length co14, .string t118] rfl am ?_; (with_reducible refine (head_grow.calls (hG := by first | exact hG | exact Glob.below hG (by first | exact HB.out | (repeat (first | (with_reducible first | exact HB.out | apply below_alloc | apply pw_below_drewN | apply below_drew1) | exact HB.out))) | exact Glob.drawn hG (d0)) k1 (fun k_ => some k_ = (.slice Ao14 x2_1.length co14 : Value).ownBlock) (.slice Ao14 x2_1.length co14) x2_1 t118 t121 t124 w _ ?side1 ?side2 A8.out).mono ?_); (case side1 => repeat (first | (with_reducible first | exact HB.out | apply below_alloc | apply pw_below_drewN | apply below_drew1) | exact HB.out)); (case side2 => exact Kd.R_tight rfl HO_2.out); rintro e w15 ⟨v122, rfl, ho0, hb, hkp⟩; refine ⟨_, rfl, ?_⟩; have n0_ := Aside0.mk (Kd.R_mono (ok' := fun k_ => True) ho0 (fun k_ hk_ => trivial)); have n1_ := Aside0.mk (hb); clear HB; clear HO_2; have HO123 := n0_; have HB := n1_; clear n0_ n1_; (try clear hb); (try clear hkp); (try clear ho0)))
        go_ret3
        exact ⟨_, ew, by first | exact Kd.R_nil _ _ _ _ _ | exact Kd.N_nil _ _ _ _ _ | exact Kd.V_nil _ _ _ _ _ | exact Kd.Q_nil _ _ _ _ _ | exact Kd.S_nil _ _ _ _ _, bw⟩
     ·replace c5 := Bool.eq_false_iff.mpr c5; subst c5; have H1 : (some (([] : List (S46)), (⟨#[]⟩ : ByteArray), 9)) = some (r1, r2, r3) := by rw [if_neg (show ¬ (false = true) by decide)] at H; exact H
      clear H; have H := H1; clear H1; simp only [Option.some.injEq, Prod.mk.injEq] at H; obtain ⟨rfl, rfl, rfl⟩ := H
      go_wp2_with (first | ((with_reducible refine gate_callee (f := 41) rfl ?_); refine goesL_ (some 13) rfl rfl Tryz.func41 (by kernel_rfl) rfl #[.string x0_1, .string (⟨#[13, 10]⟩ : ByteArray)] rfl am ?_; (with_reducible refine (strings_Cut.calls (hG := by first | exact hG | exact Glob.below hG (by first | exact HB.out | (repeat (first | (with_reducible first | exact HB.out | apply below_alloc | apply pw_below_drewN | apply below_drew1) | exact HB.out))) | exact Glob.drawn hG (d0)) x0_1 (⟨#[13, 10]⟩ : ByteArray) t118 t119 false _ A4.out).mono ?_); rintro e w16 ⟨rfl, hb⟩; refine ⟨_, rfl, ?_⟩; have n0_ := Aside0.mk (Kd.R_below (ra HO_2.out) hb); have n1_ := Aside0.mk (below_step bw hb); clear HO_2; clear HB; have HO_2 := n0_; have HB := n1_; clear n0_ n1_; (try clear hb); (try clear hb2); (try clear hk); (try clear hi)))
      go_ret3
      exact ⟨_, ew, by first | exact Kd.R_nil _ _ _ _ _ | exact Kd.N_nil _ _ _ _ _ | exact Kd.V_nil _ _ _ _ _ | exact Kd.Q_nil _ _ _ _ _ | exact Kd.S_nil _ _ _ _ _, bw⟩
 case rest =>
  clear HC2
  try clear p2
  try clear c3
  try clear c3b0
  try clear c3b1
  try clear c4
  try clear c5
  try clear c6
  try clear c6b0
  try clear c6b1
  try clear c9
  try clear c9b0
  try clear c9b1
  try clear p2
  obtain ⟨kq, x2_1, x3_1, rfl, HA, HJ1, HO_2, HB⟩ := hcut; cases kq with
  | zero => exact absurd HA.out (by simp [head_Parse.j1])
  | succ kj1 =>
   have H := HA.out; clear HA; simp only [head_Parse.j1] at H; have H' := Aside0.mk H; clear H; obtain ⟨Ao17, co17, eo17⟩ := Kd.R_slice HO_2.out; subst eo17
   go_wp2
   go_loopg [34] kj1 (fun kq v34 w' => ∃ (x2_2 : List (S46)) (x34_2 : Int), v34 = .int .i64 x34_2 ∧ Aside0 (head_Parse.l1 kq x2_2 x3_1 (x2_1.length : Int) x34_2 = some (r1, r2, r3)) ∧ Aside0 (kq ≤ kj1) ∧ Aside0 (Kd.R k46 46 w' w.heap.size (fun _ => True) (.slice Ao17 x2_1.length co17) x2_2) ∧ Aside0 (Below w.heap.size w w'))
   case atStart => exact ⟨(x2_1), (0), cl, H', ⟨Nat.le_refl _⟩, ⟨by (with_reducible repeat (first | apply Kd.R_alloc | apply Kd.R_drewN | apply Kd.R_drew)); exact HO_2.out⟩, ⟨bw⟩⟩
   case round =>
    clear H'
    try clear p2
    try clear c3
    try clear c3b0
    try clear c3b1
    try clear c4
    try clear c5
    try clear c6
    try clear c6b0
    try clear c6b1
    try clear c9
    try clear c9b0
    try clear c9b1
    try clear p2
    obtain ⟨x2_2, x34_2, rfl, HA, HK2, HO_2, HB⟩ := hrel; have hl2_2 := (Kd.R_reads' HO_2.out).1; rw [hl2_2] at HO_2
    (try simp only [hl2_2])
    cases gk with
    | zero => exact absurd HA.out (by simp [head_Parse.l1])
    | succ k2 =>
     have H := HA.out; clear HA; simp only [head_Parse.l1] at H
     by_cases c18 : x34_2 < (x2_1.length : Int)
     ·rw [if_pos c18] at H; have c18b0 : decide (x34_2 < (x2_1.length : Int)) = true := decide_eq_true c18; clear c18
      by_cases c19 : 0 ≤ x34_2
      ·rw [if_pos c19] at H; have c19b0 : decide (0 ≤ x34_2) = true := decide_eq_true c19; clear c19
       by_cases c20 : x34_2 < (x2_2.length : Int)
       ·rw [if_pos c20] at H; have c20b0 : decide (x34_2 < (x2_2.length : Int)) = true := decide_eq_true c20; clear c20; replace H := Option.bind_eq_some_iff.mp H; obtain ⟨t126, A210, H⟩ := H; replace H : (head_Parse.l1 k2 (x2_2.set (x34_2 : Int).toNat (⟨(rd_T46 x2_2 x34_2).f0, t126⟩ : S46)) x3_1 (x2_1.length : Int) (wrap64 (x34_2 + 1))) = some (r1, r2, r3) := H; have A21 := Aside0.mk A210; clear A210; obtain ⟨y127, hy127⟩ : ∃ y_ : List (S46), y_ = (x2_2.set (x34_2 : Int).toNat (⟨(rd_T46 x2_2 x34_2).f0, t126⟩ : S46)) := ⟨_, rfl⟩
        replace H : (head_Parse.l1 k2 y127 x3_1 (x2_1.length : Int) (wrap64 (x34_2 + 1))) = some (r1, r2, r3) := by first | (rw [hy127]; with_reducible exact H) | (have H2_ := (Option.bind_some _ _).symm.trans H; rw [hy127]; with_reducible exact H2_) | (have H2_ := (Option.bind_some _ _).symm.trans H; with_reducible exact H2_) | with_reducible exact H | (rw [hy127]; exact H) | exact H
        have Ny127 := Aside0.mk hy127; clear hy127; have H' := Aside0.mk H; clear H; have p125 : 0 ≤ (x34_2 : Int) := od; have q125 : x34_2 < (x2_2.length : Int) := od; obtain ⟨ad125, e125, hx125_0, hx125_1⟩ := at_T46 (Kd.R_reads' HO_2.out).2.2 x34_2 p125 q125; cases e125; replace p125 := eq_true p125; replace q125 := eq_true q125
        go_wp2_with (first | ((with_reducible refine gate_callee (f := 46) rfl ?_); refine goesL_ (some 44) rfl rfl Tryz.func46 (by kernel_rfl) rfl #[.string ((rd_T46 x2_2 x34_2).f1)] rfl am ?_; (with_reducible refine (head_trim.calls ((rd_T46 x2_2 x34_2).f1) t126 _ A21.out).mono ?_); rintro e w23 ⟨rfl, hb⟩; refine ⟨_, rfl, ?_⟩; have n0_ := Aside0.mk (Kd.R_below (ra HO_2.out) hb); have n1_ := Aside0.mk (below_step bw hb); clear HO_2; clear HB; have HO_2 := n0_; have HB := n1_; clear n0_ n1_; (try clear hb); (try clear hb2); (try clear hk); (try clear hi); have p22 : 0 ≤ (x34_2 : Int) := od; have q22 : (x34_2 : Int) < ((x2_2.length : Int) : Int) := od; obtain ⟨go22, co22, eo22, gb22, gl22, cl22, HG22⟩ := Kd.R_form HO_2.out (by omega); (first | cases eo22 | (injection eo22 with ea_ en_ ec_; (first | subst ea_ | (injection ea_ with ea_; subst ea_)); subst ec_; clear en_)); have GB22 := Aside0.mk gb22; have GG22 := Aside0.mk HG22; clear gb22 gl22 HG22; (first | simp only [add_plain] at hx125_0 | skip); (first | simp only [add_plain] at hx125_1 | skip); obtain ⟨ce22, hcl22, hM22, hcc22, hfr22⟩ := Kd.R_elem HO_2.out z46 (x34_2 : Int) p22 q22; obtain rfl := k46_openM hM22; have hx22_0 : w23.cell? ⟨go22, (x34_2 : Int).toNat * 2, none⟩ = some (.string ((rd_T46 x2_2 x34_2).f0)) := hcc22 0 _ rfl; have hx22_1 : w23.cell? ⟨go22, (x34_2 : Int).toNat * 2 + 1, none⟩ = some (.string ((rd_T46 x2_2 x34_2).f1)) := hcc22 1 _ rfl; have hf22_0 : w23.frozen? ⟨go22, (x34_2 : Int).toNat * 2, none⟩ = false := hfr22 0; have hf22_1 : w23.frozen? ⟨go22, (x34_2 : Int).toNat * 2 + 1, none⟩ = false := hfr22 1; clear hcl22 hcc22 hfr22 hM22; replace p22 := eq_true p22; replace q22 := eq_true q22; have HX24 := Aside0.mk (show Kd.R k46 46 w23 w.heap.size (fun _ => True) (.slice (some ⟨go22, 0, none⟩) x2_2.length co17) x2_2 from (ra HO_2.out)); obtain ⟨ce24, hcl24, hM24, hcc24, hfr24⟩ := Kd.R_elem HX24.out z46 (x34_2 : Int) (od) (by have h_ : (x34_2 : Int) < ((x2_2.length : Int) : Int) := od; first | exact h_ | (have e_ := (Kd.R_reads' HO_2.out).1; omega) | simpa using h_); obtain rfl := k46_openM hM24; have HP24 := Kd.R_seg HX24.out (x34_2 : Int) (od) (by have h_ : (x34_2 : Int) < ((x2_2.length : Int) : Int) := od; first | exact h_ | (have e_ := (Kd.R_reads' HO_2.out).1; omega) | simpa using h_) (seg := [.string t126]) (j := 1) hcl24 hcc24 (show 2 ≤ 2 from by decide) (x' := (⟨(rd_T46 x2_2 x34_2).f0, t126⟩ : S46)) (k46_mkM _ _ _ (⟨(rd_T46 x2_2 x34_2).f0, t126⟩ : S46) ) (fun _ hk => hk); have hx24_1 := hcc24 1 _ rfl; (try simp only [show (k46).sz = 2 from rfl, Nat.mul_one, Nat.add_zero] at hx24_1); have hf24_1 := hfr24 1; (try simp only [show (k46).sz = 2 from rfl, Nat.mul_one, Nat.add_zero] at hf24_1); clear hcl24 hcc24 hfr24 hM24) | ((with_reducible refine gate_store (t := 9) (p := 46) rfl ?_); refine store_event (t := 9) (p := 46) (v := ?vo_w25) (w1 := (w23.setCell ⟨go22, (x34_2 : Int).toNat * 2 + 1, none⟩ (.string t126))) ?hg ?ho ?hn ?hr ?_; (case ho => rfl); (case hg => rfl); (case hn => rfl); (case hr => first | (go_simp; done) | (go_simp; rfl)); intro w25 hw; have hg : w23.grownBy w25 (some go22) := (by rw [hw]; exact HP24.2); have hp_ : Kd.R k46 46 w25 w.heap.size (fun _ => True) (.slice (some ⟨go22, 0, none⟩) x2_2.length co17) y127 := (by rw [hw, Ny127.out]; exact HP24.1); clear HP24; have n0_ := Aside0.mk (hp_); have n1_ := Aside0.mk ((by rw [hw]; exact below_set (HB.out) GB22.out : Below w.heap.size w w25)); clear HO_2; clear HB; have HO_2 := n0_; have HB := n1_; clear n0_ n1_; clear hg hw hp_))
        (try simp only [← hl2_2])
        go_roundg k2
        case measure => have := HJ1.out; have := HK2.out; omega
        case rel => exact ⟨(y127), (wrap64 (x34_2 + 1)), cl, H', ⟨by have := HJ1.out; have := HK2.out; omega⟩, ⟨by (try simp only [hl2_2]); (with_reducible repeat (first | apply Kd.R_alloc | apply Kd.R_drewN | apply Kd.R_drew)); exact HO_2.out⟩, ⟨bw⟩⟩
       ·rw [if_neg c20] at H; exact absurd H (by simp)
      ·rw [if_neg c19] at H; exact absurd H (by simp)
     ·rw [if_neg c18] at H; have c18b0 : decide (x34_2 < (x2_1.length : Int)) = false := decide_eq_false c18
      (try simp only [hl2_2] at c18b0)
      clear c18; simp only [Option.some.injEq, Prod.mk.injEq] at H; obtain ⟨rfl, rfl, rfl⟩ := H
      go_wp2
      go_ret3
      exact ⟨_, ew, by (with_reducible repeat (first | apply Kd.R_alloc | apply Kd.R_drewN | apply Kd.R_drew)); exact HO_2.out, bw⟩

end Go.Proofs.YtbjbpgmjijeppaaGreatDoor.Fn
namespace Go.Proofs.YtbjbpgmjijeppaaGreatDoor.Fn
open Go.RowKit Go.Proofs.YtbjbpgmjijeppaaGreatDoorW.PrintWords Go.Proofs.YtbjbpgmjijeppaaGreatDoorW.PrintLast Go.Proofs.YtbjbpgmjijeppaaGreatDoorW.PrintMore
attribute [local go_sem] max2_int min2_int max_two min_two max_three min_three max_four min_four
set_option linter.unusedVariables false
set_option linter.unusedSimpArgs false

def msg_Parse.f (k : Nat) (a0 : ByteArray) : Option ((List (S46)) × ByteArray × Int) := if (a0.size : Int) > 65536 then (some (([] : List (S46)), (⟨#[]⟩ : ByteArray), 2)) else ((head_Parse.f k a0).bind fun bt129 => (if bt129.2.2 = 0 then (some (bt129.1, bt129.2.1, 0)) else (some (([] : List (S46)), (⟨#[]⟩ : ByteArray), bt129.2.2))))
theorem msg_Parse.mono : ∀ a0 k, LeO (msg_Parse.f k a0) (msg_Parse.f (k + 1) a0) := by
 intro a0 k; unfold msg_Parse.f
 repeat' first
   | (with_reducible exact head_Parse.mono _ _)
   | (with_reducible exact LeO.refl _)
   | (with_reducible exact LeO.none _)
   | (with_reducible refine LeO.ite ?_ ?_)
   | (with_reducible refine LeO.bind ?_ (fun _ => ?_))
   | exact head_Parse.mono _ _
   | exact LeO.none _
   | refine LeO.ite ?_ ?_
   | refine LeO.bind ?_ (fun _ => ?_)
set_option maxHeartbeats 8000000 in
set_option maxRecDepth 100000 in
theorem msg_Parse.calls (k : Nat) (a0 : ByteArray) (r1 : List (S46)) (r2 : ByteArray) (r3 : Int) (w : World) (hG : Glob w) (h : msg_Parse.f k a0 = some (r1, r2, r3)) :
  Calls Tryz.prog 10 #[.string a0] w fun e w' => ∃ v0_ : Value, e = .returned (.tuple #[.agg #[v0_, .string r2], .int .i64 r3]) ∧ Kd.R k46 46 w' w.heap.size (fun _ => True) v0_ r1 ∧ Below w.heap.size w w' := by
 have hu25 := Tryz.underlying25; have HB := Aside0.mk (Below.refl w.heap.size w); have H : (if (a0.size : Int) > 65536 then (some (([] : List (S46)), (⟨#[]⟩ : ByteArray), 2)) else ((head_Parse.f k a0).bind fun bt129 => (if bt129.2.2 = 0 then (some (bt129.1, bt129.2.1, 0)) else (some (([] : List (S46)), (⟨#[]⟩ : ByteArray), bt129.2.2))))) = some (r1, r2, r3) := h; clear h
 by_cases c2 : (a0.size : Int) > 65536
 ·rw [if_pos c2] at H; have c2b0 : decide (65536 < (a0.size : Int)) = true := decide_eq_true c2; have c2b1 : decide (65536 < a0.size) = true := decide_eq_true (by omega); clear c2; simp only [Option.some.injEq, Prod.mk.injEq] at H; obtain ⟨rfl, rfl, rfl⟩ := H
  go_enter Tryz.func10, Tryz.ntmps10
  go_wp2_with (first | ((with_reducible refine gate_dst (N := 2) rfl ?_); refine box_event ?hg (N := 2) ?hd (cs := #[.slice none 0 0, .string (⟨#[]⟩ : ByteArray)]) (t := 25) ?hr ?_; (case hd => rfl); (case hg => rfl); (case hr => first | (go_simp; done) | (go_simp; rfl)); intro gb128 hg w3 hbox hb; have n0_ := Aside0.mk (below_step bw hb); have n1_ := Aside0.mk (hbox); have n2_ := Aside0.mk ((by rw [hg]; exact (below_size bw) : w.heap.size ≤ gb128)); have n3_ := Aside0.mk ((by rw [hg]; exact (below_size bw) : w.heap.size ≤ gb128)); clear HB; have HB := n0_; have BK128 := n1_; have GW128 := n2_; have GE128 := n3_; clear n0_ n1_ n2_ n3_; clear hb hbox hg; have hcz4_0 : w3.cell? ⟨gb128, 0, none⟩ = some (.slice none 0 0) := (blk_cell BK128.out 0).trans rfl; have hcz4_1 : w3.cell? ⟨gb128, 1, none⟩ = some (.string (⟨#[]⟩ : ByteArray)) := (blk_cell BK128.out 1).trans rfl; have hfz4_0 := blk_frozen BK128.out 0; have hfz4_1 := blk_frozen BK128.out 1))
  refine bodyPost_ret (results_ct rfl _ _ gb128 25 #[.slice none 0 0, .string (⟨#[]⟩ : ByteArray)] (0, 0) _ rfl (by (with_reducible repeat (first | refine blk_drewN ?_ _ | refine blk_drew ?_ | refine blk_alloc ?_ _)); refine blk_put (cs := #[.slice none 0 0, .string (⟨#[]⟩ : ByteArray)]) ?_ 1 _ rfl; (with_reducible repeat (first | refine blk_drewN ?_ _ | refine blk_drew ?_ | refine blk_alloc ?_ _)); exact blk_put (cs := #[.slice none 0 0, .string (⟨#[]⟩ : ByteArray)]) bk 0 _ rfl) Tryz.underlying25 rfl (by kernel_rfl)) rfl ?_; exact ⟨_, ew, by first | exact Kd.R_nil _ _ _ _ _ | exact Kd.N_nil _ _ _ _ _ | exact Kd.V_nil _ _ _ _ _ | exact Kd.Q_nil _ _ _ _ _ | exact Kd.S_nil _ _ _ _ _, bwS⟩
 ·rw [if_neg c2] at H; have c2b0 : decide (65536 < (a0.size : Int)) = false := decide_eq_false c2; have c2b1 : decide (65536 < a0.size) = false := decide_eq_false (by omega); clear c2; replace H := Option.bind_eq_some_iff.mp H; obtain ⟨⟨t129, t130, t131⟩, A50, H⟩ := H; replace H : (if t131 = 0 then (some (t129, t130, 0)) else (some (([] : List (S46)), (⟨#[]⟩ : ByteArray), t131))) = some (r1, r2, r3) := H; have A5 := Aside0.mk A50; clear A50
  by_cases c6 : t131 = 0
  ·rw [if_pos c6] at H; have c6b0 : (t131 == 0) = true := beq_iff_eq.mpr c6; have c6b1 : (t131 != 0) = false := bne_eq_false_iff_eq.mpr c6; clear c6; simp only [Option.some.injEq, Prod.mk.injEq] at H; obtain ⟨rfl, rfl, rfl⟩ := H
   go_enter Tryz.func10, Tryz.ntmps10
   go_wp2_with (first | ((with_reducible refine gate_dst (N := 2) rfl ?_); refine box_event ?hg (N := 2) ?hd (cs := #[.slice none 0 0, .string (⟨#[]⟩ : ByteArray)]) (t := 25) ?hr ?_; (case hd => rfl); (case hg => rfl); (case hr => first | (go_simp; done) | (go_simp; rfl)); intro gb128 hg w7 hbox hb; have n0_ := Aside0.mk (below_step bw hb); have n1_ := Aside0.mk (hbox); have n2_ := Aside0.mk ((by rw [hg]; exact (below_size bw) : w.heap.size ≤ gb128)); have n3_ := Aside0.mk ((by rw [hg]; exact (below_size bw) : w.heap.size ≤ gb128)); clear HB; have HB := n0_; have BK128 := n1_; have GW128 := n2_; have GE128 := n3_; clear n0_ n1_ n2_ n3_; clear hb hbox hg) | ((with_reducible refine gate_callee (f := 36) rfl ?_); refine goesL_ (some 13) rfl rfl Tryz.func36 (by kernel_rfl) rfl #[.string a0] rfl am ?_; (with_reducible refine (head_Parse.calls (hG := by first | exact hG | exact Glob.below hG (by first | exact HB.out | (repeat (first | (with_reducible first | exact HB.out | apply below_alloc | apply pw_below_drewN | apply below_drew1 | refine below_set ?_ GE128.out) | exact HB.out))) | exact Glob.drawn hG (d0)) k a0 t129 t130 t131 _ A5.out).mono ?_); rintro e w8 ⟨v132, rfl, ho0, hb⟩; refine ⟨_, rfl, ?_⟩; have n0_ := Aside0.mk (Kd.R_lower ho0 (below_size bwS)); have n1_ := Aside0.mk (blk_below (g := gb128) (o := .cells #[.slice none 0 0, .string (⟨#[]⟩ : ByteArray)] 25 (0, 0)) bk hb); have n2_ := Aside0.mk (below_step bwS hb); clear BK128; clear HB; have HO133 := n0_; have BK128 := n1_; have HB := n2_; clear n0_ n1_ n2_; (try clear hb); (try clear hb2); (try clear hk); (try clear hi); (try clear ho0); obtain ⟨Ao9, co9, eo9⟩ := Kd.R_slice HO133.out; subst eo9; have hcz10_0 : w8.cell? ⟨gb128, 0, none⟩ = some (.slice none 0 0) := (blk_cell BK128.out 0).trans rfl; have hcz10_1 : w8.cell? ⟨gb128, 1, none⟩ = some (.string (⟨#[]⟩ : ByteArray)) := (blk_cell BK128.out 1).trans rfl; have hfz10_0 := blk_frozen BK128.out 0; have hfz10_1 := blk_frozen BK128.out 1))
   refine bodyPost_ret (results_ct rfl _ _ gb128 25 #[.slice Ao9 t129.length co9, .string t130] (0, 0) _ rfl (by (with_reducible repeat (first | refine blk_drewN ?_ _ | refine blk_drew ?_ | refine blk_alloc ?_ _)); refine blk_put (cs := #[.slice Ao9 t129.length co9, .string (⟨#[]⟩ : ByteArray)]) ?_ 1 _ rfl; (with_reducible repeat (first | refine blk_drewN ?_ _ | refine blk_drew ?_ | refine blk_alloc ?_ _)); exact blk_put (cs := #[.slice none 0 0, .string (⟨#[]⟩ : ByteArray)]) bk 0 _ rfl) Tryz.underlying25 rfl (by kernel_rfl)) rfl ?_; exact ⟨_, ew, by (with_reducible repeat (first | apply Kd.R_alloc | apply Kd.R_drewN | apply Kd.R_drew)); exact Kd.R_mono (Kd.R_far (p := ⟨gb128, 1, none⟩) (Kd.R_far (p := ⟨gb128, 0, none⟩) (Kd.R_types HO133.out BK128.out (by decide)) (fun _ hk => hk.2) (.slice Ao9 t129.length co9)) (fun _ hk => hk.2) (.string t130)) (fun _ hk => trivial), bwS⟩
  ·rw [if_neg c6] at H; have c6b0 : (t131 == 0) = false := beq_eq_false_iff_ne.mpr c6; have c6b1 : (t131 != 0) = true := bne_iff_ne.mpr c6; simp only [Option.some.injEq, Prod.mk.injEq] at H; obtain ⟨rfl, rfl, rfl⟩ := H
   go_enter Tryz.func10, Tryz.ntmps10
   go_wp2_with (first | ((with_reducible refine gate_dst (N := 2) rfl ?_); refine box_event ?hg (N := 2) ?hd (cs := #[.slice none 0 0, .string (⟨#[]⟩ : ByteArray)]) (t := 25) ?hr ?_; (case hd => rfl); (case hg => rfl); (case hr => first | (go_simp; done) | (go_simp; rfl)); intro gb128 hg w11 hbox hb; have n0_ := Aside0.mk (below_step bw hb); have n1_ := Aside0.mk (hbox); have n2_ := Aside0.mk ((by rw [hg]; exact (below_size bw) : w.heap.size ≤ gb128)); have n3_ := Aside0.mk ((by rw [hg]; exact (below_size bw) : w.heap.size ≤ gb128)); clear HB; have HB := n0_; have BK128 := n1_; have GW128 := n2_; have GE128 := n3_; clear n0_ n1_ n2_ n3_; clear hb hbox hg) | ((with_reducible refine gate_callee (f := 36) rfl ?_); refine goesL_ (some 13) rfl rfl Tryz.func36 (by kernel_rfl) rfl #[.string a0] rfl am ?_; (with_reducible refine (head_Parse.calls (hG := by first | exact hG | exact Glob.below hG (by first | exact HB.out | (repeat (first | (with_reducible first | exact HB.out | apply below_alloc | apply pw_below_drewN | apply below_drew1 | refine below_set ?_ GE128.out) | exact HB.out))) | exact Glob.drawn hG (d0)) k a0 t129 t130 t131 _ A5.out).mono ?_); rintro e w12 ⟨v132, rfl, ho0, hb⟩; refine ⟨_, rfl, ?_⟩; have n0_ := Aside0.mk (Kd.R_lower ho0 (below_size bwS)); have n1_ := Aside0.mk (blk_below (g := gb128) (o := .cells #[.slice none 0 0, .string (⟨#[]⟩ : ByteArray)] 25 (0, 0)) bk hb); have n2_ := Aside0.mk (below_step bwS hb); clear BK128; clear HB; have HO133 := n0_; have BK128 := n1_; have HB := n2_; clear n0_ n1_ n2_; (try clear hb); (try clear hb2); (try clear hk); (try clear hi); (try clear ho0); have hcz13_0 : w12.cell? ⟨gb128, 0, none⟩ = some (.slice none 0 0) := (blk_cell BK128.out 0).trans rfl; have hcz13_1 : w12.cell? ⟨gb128, 1, none⟩ = some (.string (⟨#[]⟩ : ByteArray)) := (blk_cell BK128.out 1).trans rfl; have hfz13_0 := blk_frozen BK128.out 0; have hfz13_1 := blk_frozen BK128.out 1))
   refine bodyPost_ret (results_ct rfl _ _ gb128 25 #[.slice none 0 0, .string (⟨#[]⟩ : ByteArray)] (0, 0) _ rfl (by (with_reducible repeat (first | refine blk_drewN ?_ _ | refine blk_drew ?_ | refine blk_alloc ?_ _)); refine blk_put (cs := #[.slice none 0 0, .string (⟨#[]⟩ : ByteArray)]) ?_ 1 _ rfl; (with_reducible repeat (first | refine blk_drewN ?_ _ | refine blk_drew ?_ | refine blk_alloc ?_ _)); exact blk_put (cs := #[.slice none 0 0, .string (⟨#[]⟩ : ByteArray)]) bk 0 _ rfl) Tryz.underlying25 rfl (by kernel_rfl)) rfl ?_; exact ⟨_, ew, by first | exact Kd.R_nil _ _ _ _ _ | exact Kd.N_nil _ _ _ _ _ | exact Kd.V_nil _ _ _ _ _ | exact Kd.Q_nil _ _ _ _ _ | exact Kd.S_nil _ _ _ _ _, bwS⟩

end Go.Proofs.YtbjbpgmjijeppaaGreatDoor.Fn
namespace Go.Proofs.YtbjbpgmjijeppaaGreatDoor.Fn
open Go.RowKit Go.Proofs.YtbjbpgmjijeppaaGreatDoorW.PrintWords Go.Proofs.YtbjbpgmjijeppaaGreatDoorW.PrintLast Go.Proofs.YtbjbpgmjijeppaaGreatDoorW.PrintMore
attribute [local go_sem] max2_int min2_int max_two min_two max_three min_three max_four min_four
set_option linter.unusedVariables false
set_option linter.unusedSimpArgs false

def bulletinlaw16_works.f (k : Nat)  : Option (Bool) := (msg_Parse.f k (⟨#[70, 114, 111, 109, 58, 32, 65, 110, 110, 32, 60, 97, 64, 98, 62, 13, 10, 13, 10, 104, 105, 13, 10]⟩ : ByteArray)).bind fun bt289 => ((msg_Message_From.f k bt289.1 bt289.2.1).bind fun bt295 => ((msg_Message_Lines.f k bt289.1 bt289.2.1).bind fun t300 => (if bt289.2.2 = 0 then (if bt295.2.2.2 = 0 then (if bt295.1.toList = ([65, 110, 110] : List UInt8) then (if bt295.2.1.toList = ([97] : List UInt8) then (if (t300.length : Int) = 1 then (if 0 < (t300.length : Int) then (if (rdOf ByteArray.empty t300 0).toList = ([104, 105] : List UInt8) then ((msg_Message_Text.f bt289.1 bt289.2.1).bind fun t304 => (some (t304.toList == ([70, 114, 111, 109, 58, 32, 65, 110, 110, 32, 60, 97, 64, 98, 62, 13, 10, 13, 10, 104, 105, 13, 10] : List UInt8)))) else (some false)) else (none)) else (some false)) else (some false)) else (some false)) else (some false)) else (some false))))
theorem bulletinlaw16_works.mono : ∀ k, LeO (bulletinlaw16_works.f k ) (bulletinlaw16_works.f (k + 1) ) := by
 intro  k; unfold bulletinlaw16_works.f
 repeat' first
   | (with_reducible exact msg_Message_From.mono _ _ _)
   | (with_reducible exact msg_Message_Lines.mono _ _ _)
   | (with_reducible exact msg_Parse.mono _ _)
   | (with_reducible exact LeO.refl _)
   | (with_reducible exact LeO.none _)
   | (with_reducible refine LeO.ite ?_ ?_)
   | (with_reducible refine LeO.bind ?_ (fun _ => ?_))
   | exact msg_Message_From.mono _ _ _
   | exact msg_Message_Lines.mono _ _ _
   | exact msg_Parse.mono _ _
   | exact LeO.none _
   | refine LeO.ite ?_ ?_
   | refine LeO.bind ?_ (fun _ => ?_)
set_option maxHeartbeats 8000000 in
set_option maxRecDepth 100000 in
theorem bulletinlaw16_works.calls (k : Nat)  (r : Bool) (w : World) (hG : Glob w) (h : bulletinlaw16_works.f k  = some r) :
  Calls Tryz.prog 9 #[] w fun e w' => e = .returned (.bool r) ∧ Below w.heap.size w w' := by
 have hu25 := Tryz.underlying25; have hu53 := Tryz.underlying53; have HB := Aside0.mk (Below.refl w.heap.size w); have H : ((msg_Parse.f k (⟨#[70, 114, 111, 109, 58, 32, 65, 110, 110, 32, 60, 97, 64, 98, 62, 13, 10, 13, 10, 104, 105, 13, 10]⟩ : ByteArray)).bind fun bt289 => ((msg_Message_From.f k bt289.1 bt289.2.1).bind fun bt295 => ((msg_Message_Lines.f k bt289.1 bt289.2.1).bind fun t300 => (if bt289.2.2 = 0 then (if bt295.2.2.2 = 0 then (if bt295.1.toList = ([65, 110, 110] : List UInt8) then (if bt295.2.1.toList = ([97] : List UInt8) then (if (t300.length : Int) = 1 then (if 0 < (t300.length : Int) then (if (rdOf ByteArray.empty t300 0).toList = ([104, 105] : List UInt8) then ((msg_Message_Text.f bt289.1 bt289.2.1).bind fun t304 => (some (t304.toList == ([70, 114, 111, 109, 58, 32, 65, 110, 110, 32, 60, 97, 64, 98, 62, 13, 10, 13, 10, 104, 105, 13, 10] : List UInt8)))) else (some false)) else (none)) else (some false)) else (some false)) else (some false)) else (some false)) else (some false))))) = some r := h; clear h; replace H := Option.bind_eq_some_iff.mp H; obtain ⟨⟨t289, t292, t293⟩, A10, H⟩ := H; replace H : ((msg_Message_From.f k t289 t292).bind fun bt295 => ((msg_Message_Lines.f k t289 t292).bind fun t300 => (if t293 = 0 then (if bt295.2.2.2 = 0 then (if bt295.1.toList = ([65, 110, 110] : List UInt8) then (if bt295.2.1.toList = ([97] : List UInt8) then (if (t300.length : Int) = 1 then (if 0 < (t300.length : Int) then (if (rdOf ByteArray.empty t300 0).toList = ([104, 105] : List UInt8) then ((msg_Message_Text.f t289 t292).bind fun t304 => (some (t304.toList == ([70, 114, 111, 109, 58, 32, 65, 110, 110, 32, 60, 97, 64, 98, 62, 13, 10, 13, 10, 104, 105, 13, 10] : List UInt8)))) else (some false)) else (none)) else (some false)) else (some false)) else (some false)) else (some false)) else (some false)))) = some r := H; have A1 := Aside0.mk A10; clear A10; replace H := Option.bind_eq_some_iff.mp H; obtain ⟨⟨t295, t296, t297, t298⟩, A20, H⟩ := H; replace H : ((msg_Message_Lines.f k t289 t292).bind fun t300 => (if t293 = 0 then (if t298 = 0 then (if t295.toList = ([65, 110, 110] : List UInt8) then (if t296.toList = ([97] : List UInt8) then (if (t300.length : Int) = 1 then (if 0 < (t300.length : Int) then (if (rdOf ByteArray.empty t300 0).toList = ([104, 105] : List UInt8) then ((msg_Message_Text.f t289 t292).bind fun t304 => (some (t304.toList == ([70, 114, 111, 109, 58, 32, 65, 110, 110, 32, 60, 97, 64, 98, 62, 13, 10, 13, 10, 104, 105, 13, 10] : List UInt8)))) else (some false)) else (none)) else (some false)) else (some false)) else (some false)) else (some false)) else (some false))) = some r := H; have A2 := Aside0.mk A20; clear A20; replace H := Option.bind_eq_some_iff.mp H; obtain ⟨t300, A30, H⟩ := H; replace H : (if t293 = 0 then (if t298 = 0 then (if t295.toList = ([65, 110, 110] : List UInt8) then (if t296.toList = ([97] : List UInt8) then (if (t300.length : Int) = 1 then (if 0 < (t300.length : Int) then (if (rdOf ByteArray.empty t300 0).toList = ([104, 105] : List UInt8) then ((msg_Message_Text.f t289 t292).bind fun t304 => (some (t304.toList == ([70, 114, 111, 109, 58, 32, 65, 110, 110, 32, 60, 97, 64, 98, 62, 13, 10, 13, 10, 104, 105, 13, 10] : List UInt8)))) else (some false)) else (none)) else (some false)) else (some false)) else (some false)) else (some false)) else (some false)) = some r := H; have A3 := Aside0.mk A30; clear A30
 by_cases c4 : t293 = 0
 ·rw [if_pos c4] at H; have c4b0 : (t293 == 0) = true := beq_iff_eq.mpr c4; have c4b1 : (t293 != 0) = false := bne_eq_false_iff_eq.mpr c4; clear c4
  by_cases c5 : t298 = 0
  ·rw [if_pos c5] at H; have c5b0 : (t298 == 0) = true := beq_iff_eq.mpr c5; have c5b1 : (t298 != 0) = false := bne_eq_false_iff_eq.mpr c5; clear c5
   by_cases c6 : t295.toList = ([65, 110, 110] : List UInt8)
   ·rw [if_pos c6] at H; have c6b0 : (t295.toList == ([65, 110, 110] : List UInt8)) = true := beq_iff_eq.mpr c6; have c6b1 : (t295.toList != ([65, 110, 110] : List UInt8)) = false := bne_eq_false_iff_eq.mpr c6; clear c6
    by_cases c7 : t296.toList = ([97] : List UInt8)
    ·rw [if_pos c7] at H; have c7b0 : (t296.toList == ([97] : List UInt8)) = true := beq_iff_eq.mpr c7; have c7b1 : (t296.toList != ([97] : List UInt8)) = false := bne_eq_false_iff_eq.mpr c7; clear c7
     by_cases c8 : (t300.length : Int) = 1
     ·rw [if_pos c8] at H; have c8b0 : ((t300.length : Int) == 1) = true := beq_iff_eq.mpr c8; have c8b1 : ((t300.length : Int) != 1) = false := bne_eq_false_iff_eq.mpr c8; clear c8
      by_cases c9 : 0 < (t300.length : Int)
      ·rw [if_pos c9] at H; have c9b0 : decide (0 < (t300.length : Int)) = true := decide_eq_true c9; have c9b1 : decide (0 < t300.length) = true := decide_eq_true (by omega); clear c9
       by_cases c10 : (rdOf ByteArray.empty t300 0).toList = ([104, 105] : List UInt8)
       ·rw [if_pos c10] at H; have c10b0 : ((rdOf ByteArray.empty t300 0).toList == ([104, 105] : List UInt8)) = true := beq_iff_eq.mpr c10; have c10b1 : ((rdOf ByteArray.empty t300 0).toList != ([104, 105] : List UInt8)) = false := bne_eq_false_iff_eq.mpr c10; clear c10; replace H := Option.bind_eq_some_iff.mp H; obtain ⟨t304, A110, H⟩ := H; replace H : (some (t304.toList == ([70, 114, 111, 109, 58, 32, 65, 110, 110, 32, 60, 97, 64, 98, 62, 13, 10, 13, 10, 104, 105, 13, 10] : List UInt8))) = some r := H; have A11 := Aside0.mk A110; clear A110; obtain rfl := Option.some.inj H
        go_enter Tryz.func9, Tryz.ntmps9
        go_wp2_with (first | ((with_reducible refine gate_callee (f := 10) rfl ?_); refine goesL_ (some 7) rfl rfl Tryz.func10 (by kernel_rfl) rfl #[.string (⟨#[70, 114, 111, 109, 58, 32, 65, 110, 110, 32, 60, 97, 64, 98, 62, 13, 10, 13, 10, 104, 105, 13, 10]⟩ : ByteArray)] rfl am ?_; (with_reducible refine (msg_Parse.calls (hG := by first | exact hG | exact Glob.below hG (by first | exact HB.out | (repeat (first | (with_reducible first | exact HB.out | apply below_alloc | apply pw_below_drewN | apply below_drew1 | refine below_set ?_ GE294.out | refine below_set ?_ GE299.out) | exact HB.out))) | exact Glob.drawn hG (d0)) k (⟨#[70, 114, 111, 109, 58, 32, 65, 110, 110, 32, 60, 97, 64, 98, 62, 13, 10, 13, 10, 104, 105, 13, 10]⟩ : ByteArray) t289 t292 t293 _ A1.out).mono ?_); rintro e w12 ⟨v290, rfl, ho0, hb⟩; refine ⟨_, rfl, ?_⟩; have n0_ := Aside0.mk (Kd.R_lower ho0 (below_size bw)); have n1_ := Aside0.mk (below_step bw hb); clear HB; have HO291 := n0_; have HB := n1_; clear n0_ n1_; (try clear hb); (try clear hb2); (try clear hk); (try clear hi); (try clear ho0)) | ((with_reducible refine gate_dst (N := 1) rfl ?_); (try (refine gate_guard (by rfl) ?_; dsimp only)); refine box_event ?hg (N := 1) ?hd (cs := #[.slice none 0 0, .string (⟨#[]⟩ : ByteArray)]) (t := 25) ?hr ?_; (case hd => rfl); (case hg => rfl); (case hr => first | (go_simp; done) | (go_simp; rfl)); intro gb294 hg w13 hbox hb; have n0_ := Aside0.mk (Kd.R_below (ra HO291.out) hb); have n1_ := Aside0.mk (below_step bw hb); have n2_ := Aside0.mk (hbox); have n3_ := Aside0.mk ((by rw [hg]; exact (below_size bw) : w.heap.size ≤ gb294)); have n4_ := Aside0.mk ((by rw [hg]; exact (below_size bw) : w.heap.size ≤ gb294)); clear HO291; clear HB; have HO291 := n0_; have HB := n1_; have BK294 := n2_; have GW294 := n3_; have GE294 := n4_; clear n0_ n1_ n2_ n3_ n4_; clear hb hbox hg; obtain ⟨Ao14, co14, eo14⟩ := Kd.R_slice HO291.out; subst eo14; have hcz15_0 : w13.cell? ⟨gb294, 0, none⟩ = some (.slice none 0 0) := (blk_cell BK294.out 0).trans rfl; have hcz15_1 : w13.cell? ⟨gb294, 1, none⟩ = some (.string (⟨#[]⟩ : ByteArray)) := (blk_cell BK294.out 1).trans rfl; have hfz15_0 := blk_frozen BK294.out 0; have hfz15_1 := blk_frozen BK294.out 1) | ((with_reducible refine gate_callee (f := 22) rfl ?_); refine goesL_ (some 12) rfl rfl Tryz.func22 (by kernel_rfl) rfl #[.agg #[.slice Ao14 t289.length co14, .string t292]] rfl am ?_; (with_reducible refine (msg_Message_From.calls (hG := by first | exact hG | exact Glob.below hG (by first | exact HB.out | (repeat (first | (with_reducible first | exact HB.out | apply below_alloc | apply pw_below_drewN | apply below_drew1 | refine below_set ?_ GE294.out | refine below_set ?_ GE299.out) | exact HB.out))) | exact Glob.drawn hG (d0)) k _ _ t289 t292 t295 t296 t297 t298 _ ?side1 ?side2 A2.out).mono ?_); (case side1 => refine (Kd.R_reads' (e := 46) (base := w.heap.size) (ok := fun k_ => True) (n := t289.length) (c := co14) ?_).2.2; exact (by (with_reducible repeat (first | apply Kd.R_alloc | apply Kd.R_drewN | apply Kd.R_drew)); exact (Kd.R_mono (Kd.R_far (p := ⟨gb294, 1, none⟩) (Kd.R_far (p := ⟨gb294, 0, none⟩) (Kd.R_types HO291.out BK294.out (by decide)) (fun _ hk => hk.2) (.slice Ao14 t289.length co14)) (fun _ hk => hk.2) (.string t292)) (fun _ h_ => h_.1)))); (case side2 => exact (Kd.R_reads' HO291.out).2.1); rintro e w16 ⟨rfl, hb⟩; refine ⟨_, rfl, ?_⟩; have n0_ := Aside0.mk (Kd.R_below (by (with_reducible repeat (first | apply Kd.R_alloc | apply Kd.R_drewN | apply Kd.R_drew)); exact (Kd.R_mono (Kd.R_far (p := ⟨gb294, 1, none⟩) (Kd.R_far (p := ⟨gb294, 0, none⟩) (Kd.R_types HO291.out BK294.out (by decide)) (fun _ hk => hk.2) (.slice Ao14 t289.length co14)) (fun _ hk => hk.2) (.string t292)) (fun _ h_ => h_.1))) hb); have n1_ := Aside0.mk (blk_below (g := gb294) (o := .cells #[.slice Ao14 t289.length co14, .string t292] 25 (0, 0)) (by (with_reducible repeat (first | refine blk_drewN ?_ _ | refine blk_drew ?_ | refine blk_alloc ?_ _)); refine blk_put (cs := #[.slice Ao14 t289.length co14, .string (⟨#[]⟩ : ByteArray)]) ?_ 1 _ rfl; (with_reducible repeat (first | refine blk_drewN ?_ _ | refine blk_drew ?_ | refine blk_alloc ?_ _)); exact blk_put (cs := #[.slice none 0 0, .string (⟨#[]⟩ : ByteArray)]) bk 0 _ rfl) hb); have n2_ := Aside0.mk (below_step bwS hb); clear HO291; clear BK294; clear HB; have HO291 := n0_; have BK294 := n1_; have HB := n2_; clear n0_ n1_ n2_; (try clear hb); (try clear hb2); (try clear hk); (try clear hi)) | ((with_reducible refine gate_dst (N := 3) rfl ?_); (try (refine gate_guard (by rfl) ?_; dsimp only)); refine box_event ?hg (N := 3) ?hd (cs := #[.string (⟨#[]⟩ : ByteArray), .string (⟨#[]⟩ : ByteArray), .string (⟨#[]⟩ : ByteArray)]) (t := 53) ?hr ?_; (case hd => rfl); (case hg => rfl); (case hr => first | (go_simp; done) | (go_simp; rfl)); intro gb299 hg w17 hbox hb; have n0_ := Aside0.mk (Kd.R_below (ra HO291.out) hb); have n1_ := Aside0.mk (blk_below (g := gb294) (o := .cells #[.slice Ao14 t289.length co14, .string t292] 25 (0, 0)) bk hb); have n2_ := Aside0.mk (below_step bwS hb); have n3_ := Aside0.mk (hbox); have n4_ := Aside0.mk ((by rw [hg]; exact (below_size bwS) : w.heap.size ≤ gb299)); have n5_ := Aside0.mk ((by rw [hg]; exact (below_size bwS) : w.heap.size ≤ gb299)); have n6_ := Aside0.mk ((by rw [hg]; exact Nat.ne_of_lt (blk_lt (g := gb294) (o := .cells #[.slice Ao14 t289.length co14, .string t292] 25 (0, 0)) bk) : gb294 ≠ gb299)); have n7_ := Aside0.mk ((by rw [hg]; exact Nat.ne_of_gt (blk_lt (g := gb294) (o := .cells #[.slice Ao14 t289.length co14, .string t292] 25 (0, 0)) bk) : gb299 ≠ gb294)); clear HO291; clear BK294; clear HB; have HO291 := n0_; have BK294 := n1_; have HB := n2_; have BK299 := n3_; have GW299 := n4_; have GE299 := n5_; have NB294_299 := n6_; have NB299_294 := n7_; clear n0_ n1_ n2_ n3_ n4_ n5_ n6_ n7_; clear hb hbox hg; have hnb18 := NB299_294.out; have hnc18 := NB294_299.out; have hcz19_0 : w17.cell? ⟨gb299, 0, none⟩ = some (.string (⟨#[]⟩ : ByteArray)) := (blk_cell BK299.out 0).trans rfl; have hcz19_1 : w17.cell? ⟨gb299, 1, none⟩ = some (.string (⟨#[]⟩ : ByteArray)) := (blk_cell BK299.out 1).trans rfl; have hcz19_2 : w17.cell? ⟨gb299, 2, none⟩ = some (.string (⟨#[]⟩ : ByteArray)) := (blk_cell BK299.out 2).trans rfl; have hfz19_0 := blk_frozen BK299.out 0; have hfz19_1 := blk_frozen BK299.out 1; have hfz19_2 := blk_frozen BK299.out 2; have hcz20_0 : w17.cell? ⟨gb294, 0, none⟩ = some (.slice Ao14 t289.length co14) := (blk_cell BK294.out 0).trans rfl; have hcz20_1 : w17.cell? ⟨gb294, 1, none⟩ = some (.string t292) := (blk_cell BK294.out 1).trans rfl; have hfz20_0 := blk_frozen BK294.out 0; have hfz20_1 := blk_frozen BK294.out 1) | ((with_reducible refine gate_callee (f := 16) rfl ?_); refine goesL_ (some 16) rfl rfl Tryz.func16 (by kernel_rfl) rfl #[.agg #[.slice Ao14 t289.length co14, .string t292]] rfl am ?_; (with_reducible refine (msg_Message_Lines.calls (hG := by first | exact hG | exact Glob.below hG (by first | exact HB.out | (repeat (first | (with_reducible first | exact HB.out | apply below_alloc | apply pw_below_drewN | apply below_drew1 | refine below_set ?_ GE294.out | refine below_set ?_ GE299.out) | exact HB.out))) | exact Glob.drawn hG (d0)) k _ _ t289 t292 t300 _ ?side1 ?side2 A3.out).mono ?_); (case side1 => refine (Kd.R_reads' (e := 46) (base := w.heap.size) (ok := fun k_ => True) (n := t289.length) (c := co14) ?_).2.2; exact (by (with_reducible repeat (first | apply Kd.R_alloc | apply Kd.R_drewN | apply Kd.R_drew)); exact (Kd.R_mono (Kd.R_far (p := ⟨gb299, 2, none⟩) (Kd.R_far (p := ⟨gb299, 1, none⟩) (Kd.R_far (p := ⟨gb299, 0, none⟩) (Kd.R_types HO291.out BK299.out (by decide)) (fun _ hk => hk.2) (.string t295)) (fun _ hk => hk.2) (.string t296)) (fun _ hk => hk.2) (.string t297)) (fun _ h_ => h_.1)))); (case side2 => exact (Kd.R_reads' HO291.out).2.1); rintro e w21 ⟨v301, rfl, ho0, hb⟩; refine ⟨_, rfl, ?_⟩; have n0_ := Aside0.mk (Kd.R_below (by (with_reducible repeat (first | apply Kd.R_alloc | apply Kd.R_drewN | apply Kd.R_drew)); exact (Kd.R_mono (Kd.R_far (p := ⟨gb299, 2, none⟩) (Kd.R_far (p := ⟨gb299, 1, none⟩) (Kd.R_far (p := ⟨gb299, 0, none⟩) (Kd.R_types HO291.out BK299.out (by decide)) (fun _ hk => hk.2) (.string t295)) (fun _ hk => hk.2) (.string t296)) (fun _ hk => hk.2) (.string t297)) (fun _ h_ => h_.1))) hb); have n1_ := Aside0.mk (Kd.R_lower ho0 (below_size bwS)); have n2_ := Aside0.mk (blk_below (g := gb294) (o := .cells #[.slice Ao14 t289.length co14, .string t292] 25 (0, 0)) (by (with_reducible repeat (first | refine blk_drewN ?_ _ | refine blk_drew ?_ | refine blk_alloc ?_ _)); refine blk_far ?_ NB294_299.out _; (with_reducible repeat (first | refine blk_drewN ?_ _ | refine blk_drew ?_ | refine blk_alloc ?_ _)); refine blk_far ?_ NB294_299.out _; (with_reducible repeat (first | refine blk_drewN ?_ _ | refine blk_drew ?_ | refine blk_alloc ?_ _)); refine blk_far ?_ NB294_299.out _; (with_reducible repeat (first | refine blk_drewN ?_ _ | refine blk_drew ?_ | refine blk_alloc ?_ _)); exact BK294.out) hb); have n3_ := Aside0.mk (blk_below (g := gb299) (o := .cells #[.string t295, .string t296, .string t297] 53 (0, 0)) (by (with_reducible repeat (first | refine blk_drewN ?_ _ | refine blk_drew ?_ | refine blk_alloc ?_ _)); refine blk_put (cs := #[.string t295, .string t296, .string (⟨#[]⟩ : ByteArray)]) ?_ 2 _ rfl; (with_reducible repeat (first | refine blk_drewN ?_ _ | refine blk_drew ?_ | refine blk_alloc ?_ _)); refine blk_put (cs := #[.string t295, .string (⟨#[]⟩ : ByteArray), .string (⟨#[]⟩ : ByteArray)]) ?_ 1 _ rfl; (with_reducible repeat (first | refine blk_drewN ?_ _ | refine blk_drew ?_ | refine blk_alloc ?_ _)); exact blk_put (cs := #[.string (⟨#[]⟩ : ByteArray), .string (⟨#[]⟩ : ByteArray), .string (⟨#[]⟩ : ByteArray)]) bk 0 _ rfl) hb); have n4_ := Aside0.mk (below_step bwS hb); clear HO291; clear BK294; clear BK299; clear HB; have HO291 := n0_; have HO302 := n1_; have BK294 := n2_; have BK299 := n3_; have HB := n4_; clear n0_ n1_ n2_ n3_ n4_; (try clear hb); (try clear hb2); (try clear hk); (try clear hi); (try clear ho0); have hcz22_0 : w21.cell? ⟨gb299, 0, none⟩ = some (.string t295) := (blk_cell BK299.out 0).trans rfl; have hcz22_1 : w21.cell? ⟨gb299, 1, none⟩ = some (.string t296) := (blk_cell BK299.out 1).trans rfl; have hcz22_2 : w21.cell? ⟨gb299, 2, none⟩ = some (.string t297) := (blk_cell BK299.out 2).trans rfl; have hfz22_0 := blk_frozen BK299.out 0; have hfz22_1 := blk_frozen BK299.out 1; have hfz22_2 := blk_frozen BK299.out 2; obtain ⟨Ao23, co23, eo23⟩ := Kd.R_slice HO302.out; subst eo23; have p303 : 0 ≤ (0 : Int) := (by omega); have q303 : 0 < (t300.length : Int) := od; obtain ⟨ad303, e303, hx303_0⟩ := Kd.at_string (Kd.R_reads' HO302.out).2.2 0 p303 q303; cases e303; have qi303 : (0 < t300.length) = True := eq_true (by omega); (try rw [show ((0 : Int)).toNat = 0 from rfl] at hx303_0); (try rw [Addr.add_zero'] at hx303_0); replace p303 := eq_true p303; replace q303 := eq_true q303; have hcz24_0 : w21.cell? ⟨gb294, 0, none⟩ = some (.slice Ao14 t289.length co14) := (blk_cell BK294.out 0).trans rfl; have hcz24_1 : w21.cell? ⟨gb294, 1, none⟩ = some (.string t292) := (blk_cell BK294.out 1).trans rfl; have hfz24_0 := blk_frozen BK294.out 0; have hfz24_1 := blk_frozen BK294.out 1) | (go_at_call 13; (with_reducible refine (msg_Message_Text.calls _ _ t289 t292 t304 _ ?side1 ?side2 A11.out).mono ?_); (case side1 => repeat (first | exact (Kd.R_reads' HO291.out).2.2 | (with_reducible refine Kd.C_alloc ?_ _) | (with_reducible refine Kd.C_drewN ?_ _) | (with_reducible refine Kd.C_drew ?_))); (case side2 => exact (Kd.R_reads' HO291.out).2.1); rintro e w25 ⟨rfl, hb⟩; have n0_ := Aside0.mk (Kd.R_below (ra HO291.out) hb); have n1_ := Aside0.mk (Kd.R_below (ra HO302.out) hb); have n2_ := Aside0.mk (blk_below (g := gb294) (o := .cells #[.slice Ao14 t289.length co14, .string t292] 25 (0, 0)) bk hb); have n3_ := Aside0.mk (blk_below (g := gb299) (o := .cells #[.string t295, .string t296, .string t297] 53 (0, 0)) bk hb); have n4_ := Aside0.mk (below_step bwS hb); clear HO291; clear HO302; clear BK294; clear BK299; clear HB; have HO291 := n0_; have HO302 := n1_; have BK294 := n2_; have BK299 := n3_; have HB := n4_; clear n0_ n1_ n2_ n3_ n4_; (try clear hb); (try clear hb2); (try clear hk); (try clear hi)))
        go_ret
        exact ⟨ew, bwS⟩
       ·rw [if_neg c10] at H; have c10b0 : ((rdOf ByteArray.empty t300 0).toList == ([104, 105] : List UInt8)) = false := beq_eq_false_iff_ne.mpr c10; have c10b1 : ((rdOf ByteArray.empty t300 0).toList != ([104, 105] : List UInt8)) = true := bne_iff_ne.mpr c10; obtain rfl := Option.some.inj H
        go_enter Tryz.func9, Tryz.ntmps9
        go_wp2_with (first | ((with_reducible refine gate_callee (f := 10) rfl ?_); refine goesL_ (some 7) rfl rfl Tryz.func10 (by kernel_rfl) rfl #[.string (⟨#[70, 114, 111, 109, 58, 32, 65, 110, 110, 32, 60, 97, 64, 98, 62, 13, 10, 13, 10, 104, 105, 13, 10]⟩ : ByteArray)] rfl am ?_; (with_reducible refine (msg_Parse.calls (hG := by first | exact hG | exact Glob.below hG (by first | exact HB.out | (repeat (first | (with_reducible first | exact HB.out | apply below_alloc | apply pw_below_drewN | apply below_drew1 | refine below_set ?_ GE294.out | refine below_set ?_ GE299.out) | exact HB.out))) | exact Glob.drawn hG (d0)) k (⟨#[70, 114, 111, 109, 58, 32, 65, 110, 110, 32, 60, 97, 64, 98, 62, 13, 10, 13, 10, 104, 105, 13, 10]⟩ : ByteArray) t289 t292 t293 _ A1.out).mono ?_); rintro e w26 ⟨v290, rfl, ho0, hb⟩; refine ⟨_, rfl, ?_⟩; have n0_ := Aside0.mk (Kd.R_lower ho0 (below_size bw)); have n1_ := Aside0.mk (below_step bw hb); clear HB; have HO291 := n0_; have HB := n1_; clear n0_ n1_; (try clear hb); (try clear hb2); (try clear hk); (try clear hi); (try clear ho0)) | ((with_reducible refine gate_dst (N := 1) rfl ?_); (try (refine gate_guard (by rfl) ?_; dsimp only)); refine box_event ?hg (N := 1) ?hd (cs := #[.slice none 0 0, .string (⟨#[]⟩ : ByteArray)]) (t := 25) ?hr ?_; (case hd => rfl); (case hg => rfl); (case hr => first | (go_simp; done) | (go_simp; rfl)); intro gb294 hg w27 hbox hb; have n0_ := Aside0.mk (Kd.R_below (ra HO291.out) hb); have n1_ := Aside0.mk (below_step bw hb); have n2_ := Aside0.mk (hbox); have n3_ := Aside0.mk ((by rw [hg]; exact (below_size bw) : w.heap.size ≤ gb294)); have n4_ := Aside0.mk ((by rw [hg]; exact (below_size bw) : w.heap.size ≤ gb294)); clear HO291; clear HB; have HO291 := n0_; have HB := n1_; have BK294 := n2_; have GW294 := n3_; have GE294 := n4_; clear n0_ n1_ n2_ n3_ n4_; clear hb hbox hg; obtain ⟨Ao28, co28, eo28⟩ := Kd.R_slice HO291.out; subst eo28; have hcz29_0 : w27.cell? ⟨gb294, 0, none⟩ = some (.slice none 0 0) := (blk_cell BK294.out 0).trans rfl; have hcz29_1 : w27.cell? ⟨gb294, 1, none⟩ = some (.string (⟨#[]⟩ : ByteArray)) := (blk_cell BK294.out 1).trans rfl; have hfz29_0 := blk_frozen BK294.out 0; have hfz29_1 := blk_frozen BK294.out 1) | ((with_reducible refine gate_callee (f := 22) rfl ?_); refine goesL_ (some 12) rfl rfl Tryz.func22 (by kernel_rfl) rfl #[.agg #[.slice Ao28 t289.length co28, .string t292]] rfl am ?_; (with_reducible refine (msg_Message_From.calls (hG := by first | exact hG | exact Glob.below hG (by first | exact HB.out | (repeat (first | (with_reducible first | exact HB.out | apply below_alloc | apply pw_below_drewN | apply below_drew1 | refine below_set ?_ GE294.out | refine below_set ?_ GE299.out) | exact HB.out))) | exact Glob.drawn hG (d0)) k _ _ t289 t292 t295 t296 t297 t298 _ ?side1 ?side2 A2.out).mono ?_); (case side1 => refine (Kd.R_reads' (e := 46) (base := w.heap.size) (ok := fun k_ => True) (n := t289.length) (c := co28) ?_).2.2; exact (by (with_reducible repeat (first | apply Kd.R_alloc | apply Kd.R_drewN | apply Kd.R_drew)); exact (Kd.R_mono (Kd.R_far (p := ⟨gb294, 1, none⟩) (Kd.R_far (p := ⟨gb294, 0, none⟩) (Kd.R_types HO291.out BK294.out (by decide)) (fun _ hk => hk.2) (.slice Ao28 t289.length co28)) (fun _ hk => hk.2) (.string t292)) (fun _ h_ => h_.1)))); (case side2 => exact (Kd.R_reads' HO291.out).2.1); rintro e w30 ⟨rfl, hb⟩; refine ⟨_, rfl, ?_⟩; have n0_ := Aside0.mk (Kd.R_below (by (with_reducible repeat (first | apply Kd.R_alloc | apply Kd.R_drewN | apply Kd.R_drew)); exact (Kd.R_mono (Kd.R_far (p := ⟨gb294, 1, none⟩) (Kd.R_far (p := ⟨gb294, 0, none⟩) (Kd.R_types HO291.out BK294.out (by decide)) (fun _ hk => hk.2) (.slice Ao28 t289.length co28)) (fun _ hk => hk.2) (.string t292)) (fun _ h_ => h_.1))) hb); have n1_ := Aside0.mk (blk_below (g := gb294) (o := .cells #[.slice Ao28 t289.length co28, .string t292] 25 (0, 0)) (by (with_reducible repeat (first | refine blk_drewN ?_ _ | refine blk_drew ?_ | refine blk_alloc ?_ _)); refine blk_put (cs := #[.slice Ao28 t289.length co28, .string (⟨#[]⟩ : ByteArray)]) ?_ 1 _ rfl; (with_reducible repeat (first | refine blk_drewN ?_ _ | refine blk_drew ?_ | refine blk_alloc ?_ _)); exact blk_put (cs := #[.slice none 0 0, .string (⟨#[]⟩ : ByteArray)]) bk 0 _ rfl) hb); have n2_ := Aside0.mk (below_step bwS hb); clear HO291; clear BK294; clear HB; have HO291 := n0_; have BK294 := n1_; have HB := n2_; clear n0_ n1_ n2_; (try clear hb); (try clear hb2); (try clear hk); (try clear hi)) | ((with_reducible refine gate_dst (N := 3) rfl ?_); (try (refine gate_guard (by rfl) ?_; dsimp only)); refine box_event ?hg (N := 3) ?hd (cs := #[.string (⟨#[]⟩ : ByteArray), .string (⟨#[]⟩ : ByteArray), .string (⟨#[]⟩ : ByteArray)]) (t := 53) ?hr ?_; (case hd => rfl); (case hg => rfl); (case hr => first | (go_simp; done) | (go_simp; rfl)); intro gb299 hg w31 hbox hb; have n0_ := Aside0.mk (Kd.R_below (ra HO291.out) hb); have n1_ := Aside0.mk (blk_below (g := gb294) (o := .cells #[.slice Ao28 t289.length co28, .string t292] 25 (0, 0)) bk hb); have n2_ := Aside0.mk (below_step bwS hb); have n3_ := Aside0.mk (hbox); have n4_ := Aside0.mk ((by rw [hg]; exact (below_size bwS) : w.heap.size ≤ gb299)); have n5_ := Aside0.mk ((by rw [hg]; exact (below_size bwS) : w.heap.size ≤ gb299)); have n6_ := Aside0.mk ((by rw [hg]; exact Nat.ne_of_lt (blk_lt (g := gb294) (o := .cells #[.slice Ao28 t289.length co28, .string t292] 25 (0, 0)) bk) : gb294 ≠ gb299)); have n7_ := Aside0.mk ((by rw [hg]; exact Nat.ne_of_gt (blk_lt (g := gb294) (o := .cells #[.slice Ao28 t289.length co28, .string t292] 25 (0, 0)) bk) : gb299 ≠ gb294)); clear HO291; clear BK294; clear HB; have HO291 := n0_; have BK294 := n1_; have HB := n2_; have BK299 := n3_; have GW299 := n4_; have GE299 := n5_; have NB294_299 := n6_; have NB299_294 := n7_; clear n0_ n1_ n2_ n3_ n4_ n5_ n6_ n7_; clear hb hbox hg; have hnb32 := NB299_294.out; have hnc32 := NB294_299.out; have hcz33_0 : w31.cell? ⟨gb299, 0, none⟩ = some (.string (⟨#[]⟩ : ByteArray)) := (blk_cell BK299.out 0).trans rfl; have hcz33_1 : w31.cell? ⟨gb299, 1, none⟩ = some (.string (⟨#[]⟩ : ByteArray)) := (blk_cell BK299.out 1).trans rfl; have hcz33_2 : w31.cell? ⟨gb299, 2, none⟩ = some (.string (⟨#[]⟩ : ByteArray)) := (blk_cell BK299.out 2).trans rfl; have hfz33_0 := blk_frozen BK299.out 0; have hfz33_1 := blk_frozen BK299.out 1; have hfz33_2 := blk_frozen BK299.out 2; have hcz34_0 : w31.cell? ⟨gb294, 0, none⟩ = some (.slice Ao28 t289.length co28) := (blk_cell BK294.out 0).trans rfl; have hcz34_1 : w31.cell? ⟨gb294, 1, none⟩ = some (.string t292) := (blk_cell BK294.out 1).trans rfl; have hfz34_0 := blk_frozen BK294.out 0; have hfz34_1 := blk_frozen BK294.out 1) | ((with_reducible refine gate_callee (f := 16) rfl ?_); refine goesL_ (some 16) rfl rfl Tryz.func16 (by kernel_rfl) rfl #[.agg #[.slice Ao28 t289.length co28, .string t292]] rfl am ?_; (with_reducible refine (msg_Message_Lines.calls (hG := by first | exact hG | exact Glob.below hG (by first | exact HB.out | (repeat (first | (with_reducible first | exact HB.out | apply below_alloc | apply pw_below_drewN | apply below_drew1 | refine below_set ?_ GE294.out | refine below_set ?_ GE299.out) | exact HB.out))) | exact Glob.drawn hG (d0)) k _ _ t289 t292 t300 _ ?side1 ?side2 A3.out).mono ?_); (case side1 => refine (Kd.R_reads' (e := 46) (base := w.heap.size) (ok := fun k_ => True) (n := t289.length) (c := co28) ?_).2.2; exact (by (with_reducible repeat (first | apply Kd.R_alloc | apply Kd.R_drewN | apply Kd.R_drew)); exact (Kd.R_mono (Kd.R_far (p := ⟨gb299, 2, none⟩) (Kd.R_far (p := ⟨gb299, 1, none⟩) (Kd.R_far (p := ⟨gb299, 0, none⟩) (Kd.R_types HO291.out BK299.out (by decide)) (fun _ hk => hk.2) (.string t295)) (fun _ hk => hk.2) (.string t296)) (fun _ hk => hk.2) (.string t297)) (fun _ h_ => h_.1)))); (case side2 => exact (Kd.R_reads' HO291.out).2.1); rintro e w35 ⟨v301, rfl, ho0, hb⟩; refine ⟨_, rfl, ?_⟩; have n0_ := Aside0.mk (Kd.R_below (by (with_reducible repeat (first | apply Kd.R_alloc | apply Kd.R_drewN | apply Kd.R_drew)); exact (Kd.R_mono (Kd.R_far (p := ⟨gb299, 2, none⟩) (Kd.R_far (p := ⟨gb299, 1, none⟩) (Kd.R_far (p := ⟨gb299, 0, none⟩) (Kd.R_types HO291.out BK299.out (by decide)) (fun _ hk => hk.2) (.string t295)) (fun _ hk => hk.2) (.string t296)) (fun _ hk => hk.2) (.string t297)) (fun _ h_ => h_.1))) hb); have n1_ := Aside0.mk (Kd.R_lower ho0 (below_size bwS)); have n2_ := Aside0.mk (blk_below (g := gb294) (o := .cells #[.slice Ao28 t289.length co28, .string t292] 25 (0, 0)) (by (with_reducible repeat (first | refine blk_drewN ?_ _ | refine blk_drew ?_ | refine blk_alloc ?_ _)); refine blk_far ?_ NB294_299.out _; (with_reducible repeat (first | refine blk_drewN ?_ _ | refine blk_drew ?_ | refine blk_alloc ?_ _)); refine blk_far ?_ NB294_299.out _; (with_reducible repeat (first | refine blk_drewN ?_ _ | refine blk_drew ?_ | refine blk_alloc ?_ _)); refine blk_far ?_ NB294_299.out _; (with_reducible repeat (first | refine blk_drewN ?_ _ | refine blk_drew ?_ | refine blk_alloc ?_ _)); exact BK294.out) hb); have n3_ := Aside0.mk (blk_below (g := gb299) (o := .cells #[.string t295, .string t296, .string t297] 53 (0, 0)) (by (with_reducible repeat (first | refine blk_drewN ?_ _ | refine blk_drew ?_ | refine blk_alloc ?_ _)); refine blk_put (cs := #[.string t295, .string t296, .string (⟨#[]⟩ : ByteArray)]) ?_ 2 _ rfl; (with_reducible repeat (first | refine blk_drewN ?_ _ | refine blk_drew ?_ | refine blk_alloc ?_ _)); refine blk_put (cs := #[.string t295, .string (⟨#[]⟩ : ByteArray), .string (⟨#[]⟩ : ByteArray)]) ?_ 1 _ rfl; (with_reducible repeat (first | refine blk_drewN ?_ _ | refine blk_drew ?_ | refine blk_alloc ?_ _)); exact blk_put (cs := #[.string (⟨#[]⟩ : ByteArray), .string (⟨#[]⟩ : ByteArray), .string (⟨#[]⟩ : ByteArray)]) bk 0 _ rfl) hb); have n4_ := Aside0.mk (below_step bwS hb); clear HO291; clear BK294; clear BK299; clear HB; have HO291 := n0_; have HO302 := n1_; have BK294 := n2_; have BK299 := n3_; have HB := n4_; clear n0_ n1_ n2_ n3_ n4_; (try clear hb); (try clear hb2); (try clear hk); (try clear hi); (try clear ho0); have hcz36_0 : w35.cell? ⟨gb299, 0, none⟩ = some (.string t295) := (blk_cell BK299.out 0).trans rfl; have hcz36_1 : w35.cell? ⟨gb299, 1, none⟩ = some (.string t296) := (blk_cell BK299.out 1).trans rfl; have hcz36_2 : w35.cell? ⟨gb299, 2, none⟩ = some (.string t297) := (blk_cell BK299.out 2).trans rfl; have hfz36_0 := blk_frozen BK299.out 0; have hfz36_1 := blk_frozen BK299.out 1; have hfz36_2 := blk_frozen BK299.out 2; obtain ⟨Ao37, co37, eo37⟩ := Kd.R_slice HO302.out; subst eo37; have p303 : 0 ≤ (0 : Int) := (by omega); have q303 : 0 < (t300.length : Int) := od; obtain ⟨ad303, e303, hx303_0⟩ := Kd.at_string (Kd.R_reads' HO302.out).2.2 0 p303 q303; cases e303; have qi303 : (0 < t300.length) = True := eq_true (by omega); (try rw [show ((0 : Int)).toNat = 0 from rfl] at hx303_0); (try rw [Addr.add_zero'] at hx303_0); replace p303 := eq_true p303; replace q303 := eq_true q303))
        go_ret
        exact ⟨ew, bwS⟩
      ·rw [if_neg c9] at H; exact absurd H (by simp)
     ·rw [if_neg c8] at H; have c8b0 : ((t300.length : Int) == 1) = false := beq_eq_false_iff_ne.mpr c8; have c8b1 : ((t300.length : Int) != 1) = true := bne_iff_ne.mpr c8; obtain rfl := Option.some.inj H
      go_enter Tryz.func9, Tryz.ntmps9
      go_wp2_with (first | ((with_reducible refine gate_callee (f := 10) rfl ?_); refine goesL_ (some 7) rfl rfl Tryz.func10 (by kernel_rfl) rfl #[.string (⟨#[70, 114, 111, 109, 58, 32, 65, 110, 110, 32, 60, 97, 64, 98, 62, 13, 10, 13, 10, 104, 105, 13, 10]⟩ : ByteArray)] rfl am ?_; (with_reducible refine (msg_Parse.calls (hG := by first | exact hG | exact Glob.below hG (by first | exact HB.out | (repeat (first | (with_reducible first | exact HB.out | apply below_alloc | apply pw_below_drewN | apply below_drew1 | refine below_set ?_ GE294.out | refine below_set ?_ GE299.out) | exact HB.out))) | exact Glob.drawn hG (d0)) k (⟨#[70, 114, 111, 109, 58, 32, 65, 110, 110, 32, 60, 97, 64, 98, 62, 13, 10, 13, 10, 104, 105, 13, 10]⟩ : ByteArray) t289 t292 t293 _ A1.out).mono ?_); rintro e w38 ⟨v290, rfl, ho0, hb⟩; refine ⟨_, rfl, ?_⟩; have n0_ := Aside0.mk (Kd.R_lower ho0 (below_size bw)); have n1_ := Aside0.mk (below_step bw hb); clear HB; have HO291 := n0_; have HB := n1_; clear n0_ n1_; (try clear hb); (try clear hb2); (try clear hk); (try clear hi); (try clear ho0)) | ((with_reducible refine gate_dst (N := 1) rfl ?_); (try (refine gate_guard (by rfl) ?_; dsimp only)); refine box_event ?hg (N := 1) ?hd (cs := #[.slice none 0 0, .string (⟨#[]⟩ : ByteArray)]) (t := 25) ?hr ?_; (case hd => rfl); (case hg => rfl); (case hr => first | (go_simp; done) | (go_simp; rfl)); intro gb294 hg w39 hbox hb; have n0_ := Aside0.mk (Kd.R_below (ra HO291.out) hb); have n1_ := Aside0.mk (below_step bw hb); have n2_ := Aside0.mk (hbox); have n3_ := Aside0.mk ((by rw [hg]; exact (below_size bw) : w.heap.size ≤ gb294)); have n4_ := Aside0.mk ((by rw [hg]; exact (below_size bw) : w.heap.size ≤ gb294)); clear HO291; clear HB; have HO291 := n0_; have HB := n1_; have BK294 := n2_; have GW294 := n3_; have GE294 := n4_; clear n0_ n1_ n2_ n3_ n4_; clear hb hbox hg; obtain ⟨Ao40, co40, eo40⟩ := Kd.R_slice HO291.out; subst eo40; have hcz41_0 : w39.cell? ⟨gb294, 0, none⟩ = some (.slice none 0 0) := (blk_cell BK294.out 0).trans rfl; have hcz41_1 : w39.cell? ⟨gb294, 1, none⟩ = some (.string (⟨#[]⟩ : ByteArray)) := (blk_cell BK294.out 1).trans rfl; have hfz41_0 := blk_frozen BK294.out 0; have hfz41_1 := blk_frozen BK294.out 1) | ((with_reducible refine gate_callee (f := 22) rfl ?_); refine goesL_ (some 12) rfl rfl Tryz.func22 (by kernel_rfl) rfl #[.agg #[.slice Ao40 t289.length co40, .string t292]] rfl am ?_; (with_reducible refine (msg_Message_From.calls (hG := by first | exact hG | exact Glob.below hG (by first | exact HB.out | (repeat (first | (with_reducible first | exact HB.out | apply below_alloc | apply pw_below_drewN | apply below_drew1 | refine below_set ?_ GE294.out | refine below_set ?_ GE299.out) | exact HB.out))) | exact Glob.drawn hG (d0)) k _ _ t289 t292 t295 t296 t297 t298 _ ?side1 ?side2 A2.out).mono ?_); (case side1 => refine (Kd.R_reads' (e := 46) (base := w.heap.size) (ok := fun k_ => True) (n := t289.length) (c := co40) ?_).2.2; exact (by (with_reducible repeat (first | apply Kd.R_alloc | apply Kd.R_drewN | apply Kd.R_drew)); exact (Kd.R_mono (Kd.R_far (p := ⟨gb294, 1, none⟩) (Kd.R_far (p := ⟨gb294, 0, none⟩) (Kd.R_types HO291.out BK294.out (by decide)) (fun _ hk => hk.2) (.slice Ao40 t289.length co40)) (fun _ hk => hk.2) (.string t292)) (fun _ h_ => h_.1)))); (case side2 => exact (Kd.R_reads' HO291.out).2.1); rintro e w42 ⟨rfl, hb⟩; refine ⟨_, rfl, ?_⟩; have n0_ := Aside0.mk (Kd.R_below (by (with_reducible repeat (first | apply Kd.R_alloc | apply Kd.R_drewN | apply Kd.R_drew)); exact (Kd.R_mono (Kd.R_far (p := ⟨gb294, 1, none⟩) (Kd.R_far (p := ⟨gb294, 0, none⟩) (Kd.R_types HO291.out BK294.out (by decide)) (fun _ hk => hk.2) (.slice Ao40 t289.length co40)) (fun _ hk => hk.2) (.string t292)) (fun _ h_ => h_.1))) hb); have n1_ := Aside0.mk (blk_below (g := gb294) (o := .cells #[.slice Ao40 t289.length co40, .string t292] 25 (0, 0)) (by (with_reducible repeat (first | refine blk_drewN ?_ _ | refine blk_drew ?_ | refine blk_alloc ?_ _)); refine blk_put (cs := #[.slice Ao40 t289.length co40, .string (⟨#[]⟩ : ByteArray)]) ?_ 1 _ rfl; (with_reducible repeat (first | refine blk_drewN ?_ _ | refine blk_drew ?_ | refine blk_alloc ?_ _)); exact blk_put (cs := #[.slice none 0 0, .string (⟨#[]⟩ : ByteArray)]) bk 0 _ rfl) hb); have n2_ := Aside0.mk (below_step bwS hb); clear HO291; clear BK294; clear HB; have HO291 := n0_; have BK294 := n1_; have HB := n2_; clear n0_ n1_ n2_; (try clear hb); (try clear hb2); (try clear hk); (try clear hi)) | ((with_reducible refine gate_dst (N := 3) rfl ?_); (try (refine gate_guard (by rfl) ?_; dsimp only)); refine box_event ?hg (N := 3) ?hd (cs := #[.string (⟨#[]⟩ : ByteArray), .string (⟨#[]⟩ : ByteArray), .string (⟨#[]⟩ : ByteArray)]) (t := 53) ?hr ?_; (case hd => rfl); (case hg => rfl); (case hr => first | (go_simp; done) | (go_simp; rfl)); intro gb299 hg w43 hbox hb; have n0_ := Aside0.mk (Kd.R_below (ra HO291.out) hb); have n1_ := Aside0.mk (blk_below (g := gb294) (o := .cells #[.slice Ao40 t289.length co40, .string t292] 25 (0, 0)) bk hb); have n2_ := Aside0.mk (below_step bwS hb); have n3_ := Aside0.mk (hbox); have n4_ := Aside0.mk ((by rw [hg]; exact (below_size bwS) : w.heap.size ≤ gb299)); have n5_ := Aside0.mk ((by rw [hg]; exact (below_size bwS) : w.heap.size ≤ gb299)); have n6_ := Aside0.mk ((by rw [hg]; exact Nat.ne_of_lt (blk_lt (g := gb294) (o := .cells #[.slice Ao40 t289.length co40, .string t292] 25 (0, 0)) bk) : gb294 ≠ gb299)); have n7_ := Aside0.mk ((by rw [hg]; exact Nat.ne_of_gt (blk_lt (g := gb294) (o := .cells #[.slice Ao40 t289.length co40, .string t292] 25 (0, 0)) bk) : gb299 ≠ gb294)); clear HO291; clear BK294; clear HB; have HO291 := n0_; have BK294 := n1_; have HB := n2_; have BK299 := n3_; have GW299 := n4_; have GE299 := n5_; have NB294_299 := n6_; have NB299_294 := n7_; clear n0_ n1_ n2_ n3_ n4_ n5_ n6_ n7_; clear hb hbox hg; have hnb44 := NB299_294.out; have hnc44 := NB294_299.out; have hcz45_0 : w43.cell? ⟨gb299, 0, none⟩ = some (.string (⟨#[]⟩ : ByteArray)) := (blk_cell BK299.out 0).trans rfl; have hcz45_1 : w43.cell? ⟨gb299, 1, none⟩ = some (.string (⟨#[]⟩ : ByteArray)) := (blk_cell BK299.out 1).trans rfl; have hcz45_2 : w43.cell? ⟨gb299, 2, none⟩ = some (.string (⟨#[]⟩ : ByteArray)) := (blk_cell BK299.out 2).trans rfl; have hfz45_0 := blk_frozen BK299.out 0; have hfz45_1 := blk_frozen BK299.out 1; have hfz45_2 := blk_frozen BK299.out 2; have hcz46_0 : w43.cell? ⟨gb294, 0, none⟩ = some (.slice Ao40 t289.length co40) := (blk_cell BK294.out 0).trans rfl; have hcz46_1 : w43.cell? ⟨gb294, 1, none⟩ = some (.string t292) := (blk_cell BK294.out 1).trans rfl; have hfz46_0 := blk_frozen BK294.out 0; have hfz46_1 := blk_frozen BK294.out 1) | ((with_reducible refine gate_callee (f := 16) rfl ?_); refine goesL_ (some 16) rfl rfl Tryz.func16 (by kernel_rfl) rfl #[.agg #[.slice Ao40 t289.length co40, .string t292]] rfl am ?_; (with_reducible refine (msg_Message_Lines.calls (hG := by first | exact hG | exact Glob.below hG (by first | exact HB.out | (repeat (first | (with_reducible first | exact HB.out | apply below_alloc | apply pw_below_drewN | apply below_drew1 | refine below_set ?_ GE294.out | refine below_set ?_ GE299.out) | exact HB.out))) | exact Glob.drawn hG (d0)) k _ _ t289 t292 t300 _ ?side1 ?side2 A3.out).mono ?_); (case side1 => refine (Kd.R_reads' (e := 46) (base := w.heap.size) (ok := fun k_ => True) (n := t289.length) (c := co40) ?_).2.2; exact (by (with_reducible repeat (first | apply Kd.R_alloc | apply Kd.R_drewN | apply Kd.R_drew)); exact (Kd.R_mono (Kd.R_far (p := ⟨gb299, 2, none⟩) (Kd.R_far (p := ⟨gb299, 1, none⟩) (Kd.R_far (p := ⟨gb299, 0, none⟩) (Kd.R_types HO291.out BK299.out (by decide)) (fun _ hk => hk.2) (.string t295)) (fun _ hk => hk.2) (.string t296)) (fun _ hk => hk.2) (.string t297)) (fun _ h_ => h_.1)))); (case side2 => exact (Kd.R_reads' HO291.out).2.1); rintro e w47 ⟨v301, rfl, ho0, hb⟩; refine ⟨_, rfl, ?_⟩; have n0_ := Aside0.mk (Kd.R_below (by (with_reducible repeat (first | apply Kd.R_alloc | apply Kd.R_drewN | apply Kd.R_drew)); exact (Kd.R_mono (Kd.R_far (p := ⟨gb299, 2, none⟩) (Kd.R_far (p := ⟨gb299, 1, none⟩) (Kd.R_far (p := ⟨gb299, 0, none⟩) (Kd.R_types HO291.out BK299.out (by decide)) (fun _ hk => hk.2) (.string t295)) (fun _ hk => hk.2) (.string t296)) (fun _ hk => hk.2) (.string t297)) (fun _ h_ => h_.1))) hb); have n1_ := Aside0.mk (Kd.R_lower ho0 (below_size bwS)); have n2_ := Aside0.mk (blk_below (g := gb294) (o := .cells #[.slice Ao40 t289.length co40, .string t292] 25 (0, 0)) (by (with_reducible repeat (first | refine blk_drewN ?_ _ | refine blk_drew ?_ | refine blk_alloc ?_ _)); refine blk_far ?_ NB294_299.out _; (with_reducible repeat (first | refine blk_drewN ?_ _ | refine blk_drew ?_ | refine blk_alloc ?_ _)); refine blk_far ?_ NB294_299.out _; (with_reducible repeat (first | refine blk_drewN ?_ _ | refine blk_drew ?_ | refine blk_alloc ?_ _)); refine blk_far ?_ NB294_299.out _; (with_reducible repeat (first | refine blk_drewN ?_ _ | refine blk_drew ?_ | refine blk_alloc ?_ _)); exact BK294.out) hb); have n3_ := Aside0.mk (blk_below (g := gb299) (o := .cells #[.string t295, .string t296, .string t297] 53 (0, 0)) (by (with_reducible repeat (first | refine blk_drewN ?_ _ | refine blk_drew ?_ | refine blk_alloc ?_ _)); refine blk_put (cs := #[.string t295, .string t296, .string (⟨#[]⟩ : ByteArray)]) ?_ 2 _ rfl; (with_reducible repeat (first | refine blk_drewN ?_ _ | refine blk_drew ?_ | refine blk_alloc ?_ _)); refine blk_put (cs := #[.string t295, .string (⟨#[]⟩ : ByteArray), .string (⟨#[]⟩ : ByteArray)]) ?_ 1 _ rfl; (with_reducible repeat (first | refine blk_drewN ?_ _ | refine blk_drew ?_ | refine blk_alloc ?_ _)); exact blk_put (cs := #[.string (⟨#[]⟩ : ByteArray), .string (⟨#[]⟩ : ByteArray), .string (⟨#[]⟩ : ByteArray)]) bk 0 _ rfl) hb); have n4_ := Aside0.mk (below_step bwS hb); clear HO291; clear BK294; clear BK299; clear HB; have HO291 := n0_; have HO302 := n1_; have BK294 := n2_; have BK299 := n3_; have HB := n4_; clear n0_ n1_ n2_ n3_ n4_; (try clear hb); (try clear hb2); (try clear hk); (try clear hi); (try clear ho0); have hcz48_0 : w47.cell? ⟨gb299, 0, none⟩ = some (.string t295) := (blk_cell BK299.out 0).trans rfl; have hcz48_1 : w47.cell? ⟨gb299, 1, none⟩ = some (.string t296) := (blk_cell BK299.out 1).trans rfl; have hcz48_2 : w47.cell? ⟨gb299, 2, none⟩ = some (.string t297) := (blk_cell BK299.out 2).trans rfl; have hfz48_0 := blk_frozen BK299.out 0; have hfz48_1 := blk_frozen BK299.out 1; have hfz48_2 := blk_frozen BK299.out 2; obtain ⟨Ao49, co49, eo49⟩ := Kd.R_slice HO302.out; subst eo49))
      go_ret
      exact ⟨ew, bwS⟩
    ·rw [if_neg c7] at H; have c7b0 : (t296.toList == ([97] : List UInt8)) = false := beq_eq_false_iff_ne.mpr c7; have c7b1 : (t296.toList != ([97] : List UInt8)) = true := bne_iff_ne.mpr c7; obtain rfl := Option.some.inj H
     go_enter Tryz.func9, Tryz.ntmps9
     go_wp2_with (first | ((with_reducible refine gate_callee (f := 10) rfl ?_); refine goesL_ (some 7) rfl rfl Tryz.func10 (by kernel_rfl) rfl #[.string (⟨#[70, 114, 111, 109, 58, 32, 65, 110, 110, 32, 60, 97, 64, 98, 62, 13, 10, 13, 10, 104, 105, 13, 10]⟩ : ByteArray)] rfl am ?_; (with_reducible refine (msg_Parse.calls (hG := by first | exact hG | exact Glob.below hG (by first | exact HB.out | (repeat (first | (with_reducible first | exact HB.out | apply below_alloc | apply pw_below_drewN | apply below_drew1 | refine below_set ?_ GE294.out | refine below_set ?_ GE299.out) | exact HB.out))) | exact Glob.drawn hG (d0)) k (⟨#[70, 114, 111, 109, 58, 32, 65, 110, 110, 32, 60, 97, 64, 98, 62, 13, 10, 13, 10, 104, 105, 13, 10]⟩ : ByteArray) t289 t292 t293 _ A1.out).mono ?_); rintro e w50 ⟨v290, rfl, ho0, hb⟩; refine ⟨_, rfl, ?_⟩; have n0_ := Aside0.mk (Kd.R_lower ho0 (below_size bw)); have n1_ := Aside0.mk (below_step bw hb); clear HB; have HO291 := n0_; have HB := n1_; clear n0_ n1_; (try clear hb); (try clear hb2); (try clear hk); (try clear hi); (try clear ho0)) | ((with_reducible refine gate_dst (N := 1) rfl ?_); (try (refine gate_guard (by rfl) ?_; dsimp only)); refine box_event ?hg (N := 1) ?hd (cs := #[.slice none 0 0, .string (⟨#[]⟩ : ByteArray)]) (t := 25) ?hr ?_; (case hd => rfl); (case hg => rfl); (case hr => first | (go_simp; done) | (go_simp; rfl)); intro gb294 hg w51 hbox hb; have n0_ := Aside0.mk (Kd.R_below (ra HO291.out) hb); have n1_ := Aside0.mk (below_step bw hb); have n2_ := Aside0.mk (hbox); have n3_ := Aside0.mk ((by rw [hg]; exact (below_size bw) : w.heap.size ≤ gb294)); have n4_ := Aside0.mk ((by rw [hg]; exact (below_size bw) : w.heap.size ≤ gb294)); clear HO291; clear HB; have HO291 := n0_; have HB := n1_; have BK294 := n2_; have GW294 := n3_; have GE294 := n4_; clear n0_ n1_ n2_ n3_ n4_; clear hb hbox hg; obtain ⟨Ao52, co52, eo52⟩ := Kd.R_slice HO291.out; subst eo52; have hcz53_0 : w51.cell? ⟨gb294, 0, none⟩ = some (.slice none 0 0) := (blk_cell BK294.out 0).trans rfl; have hcz53_1 : w51.cell? ⟨gb294, 1, none⟩ = some (.string (⟨#[]⟩ : ByteArray)) := (blk_cell BK294.out 1).trans rfl; have hfz53_0 := blk_frozen BK294.out 0; have hfz53_1 := blk_frozen BK294.out 1) | ((with_reducible refine gate_callee (f := 22) rfl ?_); refine goesL_ (some 12) rfl rfl Tryz.func22 (by kernel_rfl) rfl #[.agg #[.slice Ao52 t289.length co52, .string t292]] rfl am ?_; (with_reducible refine (msg_Message_From.calls (hG := by first | exact hG | exact Glob.below hG (by first | exact HB.out | (repeat (first | (with_reducible first | exact HB.out | apply below_alloc | apply pw_below_drewN | apply below_drew1 | refine below_set ?_ GE294.out | refine below_set ?_ GE299.out) | exact HB.out))) | exact Glob.drawn hG (d0)) k _ _ t289 t292 t295 t296 t297 t298 _ ?side1 ?side2 A2.out).mono ?_); (case side1 => refine (Kd.R_reads' (e := 46) (base := w.heap.size) (ok := fun k_ => True) (n := t289.length) (c := co52) ?_).2.2; exact (by (with_reducible repeat (first | apply Kd.R_alloc | apply Kd.R_drewN | apply Kd.R_drew)); exact (Kd.R_mono (Kd.R_far (p := ⟨gb294, 1, none⟩) (Kd.R_far (p := ⟨gb294, 0, none⟩) (Kd.R_types HO291.out BK294.out (by decide)) (fun _ hk => hk.2) (.slice Ao52 t289.length co52)) (fun _ hk => hk.2) (.string t292)) (fun _ h_ => h_.1)))); (case side2 => exact (Kd.R_reads' HO291.out).2.1); rintro e w54 ⟨rfl, hb⟩; refine ⟨_, rfl, ?_⟩; have n0_ := Aside0.mk (Kd.R_below (by (with_reducible repeat (first | apply Kd.R_alloc | apply Kd.R_drewN | apply Kd.R_drew)); exact (Kd.R_mono (Kd.R_far (p := ⟨gb294, 1, none⟩) (Kd.R_far (p := ⟨gb294, 0, none⟩) (Kd.R_types HO291.out BK294.out (by decide)) (fun _ hk => hk.2) (.slice Ao52 t289.length co52)) (fun _ hk => hk.2) (.string t292)) (fun _ h_ => h_.1))) hb); have n1_ := Aside0.mk (blk_below (g := gb294) (o := .cells #[.slice Ao52 t289.length co52, .string t292] 25 (0, 0)) (by (with_reducible repeat (first | refine blk_drewN ?_ _ | refine blk_drew ?_ | refine blk_alloc ?_ _)); refine blk_put (cs := #[.slice Ao52 t289.length co52, .string (⟨#[]⟩ : ByteArray)]) ?_ 1 _ rfl; (with_reducible repeat (first | refine blk_drewN ?_ _ | refine blk_drew ?_ | refine blk_alloc ?_ _)); exact blk_put (cs := #[.slice none 0 0, .string (⟨#[]⟩ : ByteArray)]) bk 0 _ rfl) hb); have n2_ := Aside0.mk (below_step bwS hb); clear HO291; clear BK294; clear HB; have HO291 := n0_; have BK294 := n1_; have HB := n2_; clear n0_ n1_ n2_; (try clear hb); (try clear hb2); (try clear hk); (try clear hi)) | ((with_reducible refine gate_dst (N := 3) rfl ?_); (try (refine gate_guard (by rfl) ?_; dsimp only)); refine box_event ?hg (N := 3) ?hd (cs := #[.string (⟨#[]⟩ : ByteArray), .string (⟨#[]⟩ : ByteArray), .string (⟨#[]⟩ : ByteArray)]) (t := 53) ?hr ?_; (case hd => rfl); (case hg => rfl); (case hr => first | (go_simp; done) | (go_simp; rfl)); intro gb299 hg w55 hbox hb; have n0_ := Aside0.mk (Kd.R_below (ra HO291.out) hb); have n1_ := Aside0.mk (blk_below (g := gb294) (o := .cells #[.slice Ao52 t289.length co52, .string t292] 25 (0, 0)) bk hb); have n2_ := Aside0.mk (below_step bwS hb); have n3_ := Aside0.mk (hbox); have n4_ := Aside0.mk ((by rw [hg]; exact (below_size bwS) : w.heap.size ≤ gb299)); have n5_ := Aside0.mk ((by rw [hg]; exact (below_size bwS) : w.heap.size ≤ gb299)); have n6_ := Aside0.mk ((by rw [hg]; exact Nat.ne_of_lt (blk_lt (g := gb294) (o := .cells #[.slice Ao52 t289.length co52, .string t292] 25 (0, 0)) bk) : gb294 ≠ gb299)); have n7_ := Aside0.mk ((by rw [hg]; exact Nat.ne_of_gt (blk_lt (g := gb294) (o := .cells #[.slice Ao52 t289.length co52, .string t292] 25 (0, 0)) bk) : gb299 ≠ gb294)); clear HO291; clear BK294; clear HB; have HO291 := n0_; have BK294 := n1_; have HB := n2_; have BK299 := n3_; have GW299 := n4_; have GE299 := n5_; have NB294_299 := n6_; have NB299_294 := n7_; clear n0_ n1_ n2_ n3_ n4_ n5_ n6_ n7_; clear hb hbox hg; have hnb56 := NB299_294.out; have hnc56 := NB294_299.out; have hcz57_0 : w55.cell? ⟨gb299, 0, none⟩ = some (.string (⟨#[]⟩ : ByteArray)) := (blk_cell BK299.out 0).trans rfl; have hcz57_1 : w55.cell? ⟨gb299, 1, none⟩ = some (.string (⟨#[]⟩ : ByteArray)) := (blk_cell BK299.out 1).trans rfl; have hcz57_2 : w55.cell? ⟨gb299, 2, none⟩ = some (.string (⟨#[]⟩ : ByteArray)) := (blk_cell BK299.out 2).trans rfl; have hfz57_0 := blk_frozen BK299.out 0; have hfz57_1 := blk_frozen BK299.out 1; have hfz57_2 := blk_frozen BK299.out 2; have hcz58_0 : w55.cell? ⟨gb294, 0, none⟩ = some (.slice Ao52 t289.length co52) := (blk_cell BK294.out 0).trans rfl; have hcz58_1 : w55.cell? ⟨gb294, 1, none⟩ = some (.string t292) := (blk_cell BK294.out 1).trans rfl; have hfz58_0 := blk_frozen BK294.out 0; have hfz58_1 := blk_frozen BK294.out 1) | ((with_reducible refine gate_callee (f := 16) rfl ?_); refine goesL_ (some 16) rfl rfl Tryz.func16 (by kernel_rfl) rfl #[.agg #[.slice Ao52 t289.length co52, .string t292]] rfl am ?_; (with_reducible refine (msg_Message_Lines.calls (hG := by first | exact hG | exact Glob.below hG (by first | exact HB.out | (repeat (first | (with_reducible first | exact HB.out | apply below_alloc | apply pw_below_drewN | apply below_drew1 | refine below_set ?_ GE294.out | refine below_set ?_ GE299.out) | exact HB.out))) | exact Glob.drawn hG (d0)) k _ _ t289 t292 t300 _ ?side1 ?side2 A3.out).mono ?_); (case side1 => refine (Kd.R_reads' (e := 46) (base := w.heap.size) (ok := fun k_ => True) (n := t289.length) (c := co52) ?_).2.2; exact (by (with_reducible repeat (first | apply Kd.R_alloc | apply Kd.R_drewN | apply Kd.R_drew)); exact (Kd.R_mono (Kd.R_far (p := ⟨gb299, 2, none⟩) (Kd.R_far (p := ⟨gb299, 1, none⟩) (Kd.R_far (p := ⟨gb299, 0, none⟩) (Kd.R_types HO291.out BK299.out (by decide)) (fun _ hk => hk.2) (.string t295)) (fun _ hk => hk.2) (.string t296)) (fun _ hk => hk.2) (.string t297)) (fun _ h_ => h_.1)))); (case side2 => exact (Kd.R_reads' HO291.out).2.1); rintro e w59 ⟨v301, rfl, ho0, hb⟩; refine ⟨_, rfl, ?_⟩; have n0_ := Aside0.mk (Kd.R_below (by (with_reducible repeat (first | apply Kd.R_alloc | apply Kd.R_drewN | apply Kd.R_drew)); exact (Kd.R_mono (Kd.R_far (p := ⟨gb299, 2, none⟩) (Kd.R_far (p := ⟨gb299, 1, none⟩) (Kd.R_far (p := ⟨gb299, 0, none⟩) (Kd.R_types HO291.out BK299.out (by decide)) (fun _ hk => hk.2) (.string t295)) (fun _ hk => hk.2) (.string t296)) (fun _ hk => hk.2) (.string t297)) (fun _ h_ => h_.1))) hb); have n1_ := Aside0.mk (Kd.R_lower ho0 (below_size bwS)); have n2_ := Aside0.mk (blk_below (g := gb294) (o := .cells #[.slice Ao52 t289.length co52, .string t292] 25 (0, 0)) (by (with_reducible repeat (first | refine blk_drewN ?_ _ | refine blk_drew ?_ | refine blk_alloc ?_ _)); refine blk_far ?_ NB294_299.out _; (with_reducible repeat (first | refine blk_drewN ?_ _ | refine blk_drew ?_ | refine blk_alloc ?_ _)); refine blk_far ?_ NB294_299.out _; (with_reducible repeat (first | refine blk_drewN ?_ _ | refine blk_drew ?_ | refine blk_alloc ?_ _)); refine blk_far ?_ NB294_299.out _; (with_reducible repeat (first | refine blk_drewN ?_ _ | refine blk_drew ?_ | refine blk_alloc ?_ _)); exact BK294.out) hb); have n3_ := Aside0.mk (blk_below (g := gb299) (o := .cells #[.string t295, .string t296, .string t297] 53 (0, 0)) (by (with_reducible repeat (first | refine blk_drewN ?_ _ | refine blk_drew ?_ | refine blk_alloc ?_ _)); refine blk_put (cs := #[.string t295, .string t296, .string (⟨#[]⟩ : ByteArray)]) ?_ 2 _ rfl; (with_reducible repeat (first | refine blk_drewN ?_ _ | refine blk_drew ?_ | refine blk_alloc ?_ _)); refine blk_put (cs := #[.string t295, .string (⟨#[]⟩ : ByteArray), .string (⟨#[]⟩ : ByteArray)]) ?_ 1 _ rfl; (with_reducible repeat (first | refine blk_drewN ?_ _ | refine blk_drew ?_ | refine blk_alloc ?_ _)); exact blk_put (cs := #[.string (⟨#[]⟩ : ByteArray), .string (⟨#[]⟩ : ByteArray), .string (⟨#[]⟩ : ByteArray)]) bk 0 _ rfl) hb); have n4_ := Aside0.mk (below_step bwS hb); clear HO291; clear BK294; clear BK299; clear HB; have HO291 := n0_; have HO302 := n1_; have BK294 := n2_; have BK299 := n3_; have HB := n4_; clear n0_ n1_ n2_ n3_ n4_; (try clear hb); (try clear hb2); (try clear hk); (try clear hi); (try clear ho0); have hcz60_0 : w59.cell? ⟨gb299, 0, none⟩ = some (.string t295) := (blk_cell BK299.out 0).trans rfl; have hcz60_1 : w59.cell? ⟨gb299, 1, none⟩ = some (.string t296) := (blk_cell BK299.out 1).trans rfl; have hcz60_2 : w59.cell? ⟨gb299, 2, none⟩ = some (.string t297) := (blk_cell BK299.out 2).trans rfl; have hfz60_0 := blk_frozen BK299.out 0; have hfz60_1 := blk_frozen BK299.out 1; have hfz60_2 := blk_frozen BK299.out 2))
     go_ret
     exact ⟨ew, bwS⟩
   ·rw [if_neg c6] at H; have c6b0 : (t295.toList == ([65, 110, 110] : List UInt8)) = false := beq_eq_false_iff_ne.mpr c6; have c6b1 : (t295.toList != ([65, 110, 110] : List UInt8)) = true := bne_iff_ne.mpr c6; obtain rfl := Option.some.inj H
    go_enter Tryz.func9, Tryz.ntmps9
    go_wp2_with (first | ((with_reducible refine gate_callee (f := 10) rfl ?_); refine goesL_ (some 7) rfl rfl Tryz.func10 (by kernel_rfl) rfl #[.string (⟨#[70, 114, 111, 109, 58, 32, 65, 110, 110, 32, 60, 97, 64, 98, 62, 13, 10, 13, 10, 104, 105, 13, 10]⟩ : ByteArray)] rfl am ?_; (with_reducible refine (msg_Parse.calls (hG := by first | exact hG | exact Glob.below hG (by first | exact HB.out | (repeat (first | (with_reducible first | exact HB.out | apply below_alloc | apply pw_below_drewN | apply below_drew1 | refine below_set ?_ GE294.out | refine below_set ?_ GE299.out) | exact HB.out))) | exact Glob.drawn hG (d0)) k (⟨#[70, 114, 111, 109, 58, 32, 65, 110, 110, 32, 60, 97, 64, 98, 62, 13, 10, 13, 10, 104, 105, 13, 10]⟩ : ByteArray) t289 t292 t293 _ A1.out).mono ?_); rintro e w61 ⟨v290, rfl, ho0, hb⟩; refine ⟨_, rfl, ?_⟩; have n0_ := Aside0.mk (Kd.R_lower ho0 (below_size bw)); have n1_ := Aside0.mk (below_step bw hb); clear HB; have HO291 := n0_; have HB := n1_; clear n0_ n1_; (try clear hb); (try clear hb2); (try clear hk); (try clear hi); (try clear ho0)) | ((with_reducible refine gate_dst (N := 1) rfl ?_); (try (refine gate_guard (by rfl) ?_; dsimp only)); refine box_event ?hg (N := 1) ?hd (cs := #[.slice none 0 0, .string (⟨#[]⟩ : ByteArray)]) (t := 25) ?hr ?_; (case hd => rfl); (case hg => rfl); (case hr => first | (go_simp; done) | (go_simp; rfl)); intro gb294 hg w62 hbox hb; have n0_ := Aside0.mk (Kd.R_below (ra HO291.out) hb); have n1_ := Aside0.mk (below_step bw hb); have n2_ := Aside0.mk (hbox); have n3_ := Aside0.mk ((by rw [hg]; exact (below_size bw) : w.heap.size ≤ gb294)); have n4_ := Aside0.mk ((by rw [hg]; exact (below_size bw) : w.heap.size ≤ gb294)); clear HO291; clear HB; have HO291 := n0_; have HB := n1_; have BK294 := n2_; have GW294 := n3_; have GE294 := n4_; clear n0_ n1_ n2_ n3_ n4_; clear hb hbox hg; obtain ⟨Ao63, co63, eo63⟩ := Kd.R_slice HO291.out; subst eo63; have hcz64_0 : w62.cell? ⟨gb294, 0, none⟩ = some (.slice none 0 0) := (blk_cell BK294.out 0).trans rfl; have hcz64_1 : w62.cell? ⟨gb294, 1, none⟩ = some (.string (⟨#[]⟩ : ByteArray)) := (blk_cell BK294.out 1).trans rfl; have hfz64_0 := blk_frozen BK294.out 0; have hfz64_1 := blk_frozen BK294.out 1) | ((with_reducible refine gate_callee (f := 22) rfl ?_); refine goesL_ (some 12) rfl rfl Tryz.func22 (by kernel_rfl) rfl #[.agg #[.slice Ao63 t289.length co63, .string t292]] rfl am ?_; (with_reducible refine (msg_Message_From.calls (hG := by first | exact hG | exact Glob.below hG (by first | exact HB.out | (repeat (first | (with_reducible first | exact HB.out | apply below_alloc | apply pw_below_drewN | apply below_drew1 | refine below_set ?_ GE294.out | refine below_set ?_ GE299.out) | exact HB.out))) | exact Glob.drawn hG (d0)) k _ _ t289 t292 t295 t296 t297 t298 _ ?side1 ?side2 A2.out).mono ?_); (case side1 => refine (Kd.R_reads' (e := 46) (base := w.heap.size) (ok := fun k_ => True) (n := t289.length) (c := co63) ?_).2.2; exact (by (with_reducible repeat (first | apply Kd.R_alloc | apply Kd.R_drewN | apply Kd.R_drew)); exact (Kd.R_mono (Kd.R_far (p := ⟨gb294, 1, none⟩) (Kd.R_far (p := ⟨gb294, 0, none⟩) (Kd.R_types HO291.out BK294.out (by decide)) (fun _ hk => hk.2) (.slice Ao63 t289.length co63)) (fun _ hk => hk.2) (.string t292)) (fun _ h_ => h_.1)))); (case side2 => exact (Kd.R_reads' HO291.out).2.1); rintro e w65 ⟨rfl, hb⟩; refine ⟨_, rfl, ?_⟩; have n0_ := Aside0.mk (Kd.R_below (by (with_reducible repeat (first | apply Kd.R_alloc | apply Kd.R_drewN | apply Kd.R_drew)); exact (Kd.R_mono (Kd.R_far (p := ⟨gb294, 1, none⟩) (Kd.R_far (p := ⟨gb294, 0, none⟩) (Kd.R_types HO291.out BK294.out (by decide)) (fun _ hk => hk.2) (.slice Ao63 t289.length co63)) (fun _ hk => hk.2) (.string t292)) (fun _ h_ => h_.1))) hb); have n1_ := Aside0.mk (blk_below (g := gb294) (o := .cells #[.slice Ao63 t289.length co63, .string t292] 25 (0, 0)) (by (with_reducible repeat (first | refine blk_drewN ?_ _ | refine blk_drew ?_ | refine blk_alloc ?_ _)); refine blk_put (cs := #[.slice Ao63 t289.length co63, .string (⟨#[]⟩ : ByteArray)]) ?_ 1 _ rfl; (with_reducible repeat (first | refine blk_drewN ?_ _ | refine blk_drew ?_ | refine blk_alloc ?_ _)); exact blk_put (cs := #[.slice none 0 0, .string (⟨#[]⟩ : ByteArray)]) bk 0 _ rfl) hb); have n2_ := Aside0.mk (below_step bwS hb); clear HO291; clear BK294; clear HB; have HO291 := n0_; have BK294 := n1_; have HB := n2_; clear n0_ n1_ n2_; (try clear hb); (try clear hb2); (try clear hk); (try clear hi)) | ((with_reducible refine gate_dst (N := 3) rfl ?_); (try (refine gate_guard (by rfl) ?_; dsimp only)); refine box_event ?hg (N := 3) ?hd (cs := #[.string (⟨#[]⟩ : ByteArray), .string (⟨#[]⟩ : ByteArray), .string (⟨#[]⟩ : ByteArray)]) (t := 53) ?hr ?_; (case hd => rfl); (case hg => rfl); (case hr => first | (go_simp; done) | (go_simp; rfl)); intro gb299 hg w66 hbox hb; have n0_ := Aside0.mk (Kd.R_below (ra HO291.out) hb); have n1_ := Aside0.mk (blk_below (g := gb294) (o := .cells #[.slice Ao63 t289.length co63, .string t292] 25 (0, 0)) bk hb); have n2_ := Aside0.mk (below_step bwS hb); have n3_ := Aside0.mk (hbox); have n4_ := Aside0.mk ((by rw [hg]; exact (below_size bwS) : w.heap.size ≤ gb299)); have n5_ := Aside0.mk ((by rw [hg]; exact (below_size bwS) : w.heap.size ≤ gb299)); have n6_ := Aside0.mk ((by rw [hg]; exact Nat.ne_of_lt (blk_lt (g := gb294) (o := .cells #[.slice Ao63 t289.length co63, .string t292] 25 (0, 0)) bk) : gb294 ≠ gb299)); have n7_ := Aside0.mk ((by rw [hg]; exact Nat.ne_of_gt (blk_lt (g := gb294) (o := .cells #[.slice Ao63 t289.length co63, .string t292] 25 (0, 0)) bk) : gb299 ≠ gb294)); clear HO291; clear BK294; clear HB; have HO291 := n0_; have BK294 := n1_; have HB := n2_; have BK299 := n3_; have GW299 := n4_; have GE299 := n5_; have NB294_299 := n6_; have NB299_294 := n7_; clear n0_ n1_ n2_ n3_ n4_ n5_ n6_ n7_; clear hb hbox hg; have hnb67 := NB299_294.out; have hnc67 := NB294_299.out; have hcz68_0 : w66.cell? ⟨gb299, 0, none⟩ = some (.string (⟨#[]⟩ : ByteArray)) := (blk_cell BK299.out 0).trans rfl; have hcz68_1 : w66.cell? ⟨gb299, 1, none⟩ = some (.string (⟨#[]⟩ : ByteArray)) := (blk_cell BK299.out 1).trans rfl; have hcz68_2 : w66.cell? ⟨gb299, 2, none⟩ = some (.string (⟨#[]⟩ : ByteArray)) := (blk_cell BK299.out 2).trans rfl; have hfz68_0 := blk_frozen BK299.out 0; have hfz68_1 := blk_frozen BK299.out 1; have hfz68_2 := blk_frozen BK299.out 2; have hcz69_0 : w66.cell? ⟨gb294, 0, none⟩ = some (.slice Ao63 t289.length co63) := (blk_cell BK294.out 0).trans rfl; have hcz69_1 : w66.cell? ⟨gb294, 1, none⟩ = some (.string t292) := (blk_cell BK294.out 1).trans rfl; have hfz69_0 := blk_frozen BK294.out 0; have hfz69_1 := blk_frozen BK294.out 1) | ((with_reducible refine gate_callee (f := 16) rfl ?_); refine goesL_ (some 16) rfl rfl Tryz.func16 (by kernel_rfl) rfl #[.agg #[.slice Ao63 t289.length co63, .string t292]] rfl am ?_; (with_reducible refine (msg_Message_Lines.calls (hG := by first | exact hG | exact Glob.below hG (by first | exact HB.out | (repeat (first | (with_reducible first | exact HB.out | apply below_alloc | apply pw_below_drewN | apply below_drew1 | refine below_set ?_ GE294.out | refine below_set ?_ GE299.out) | exact HB.out))) | exact Glob.drawn hG (d0)) k _ _ t289 t292 t300 _ ?side1 ?side2 A3.out).mono ?_); (case side1 => refine (Kd.R_reads' (e := 46) (base := w.heap.size) (ok := fun k_ => True) (n := t289.length) (c := co63) ?_).2.2; exact (by (with_reducible repeat (first | apply Kd.R_alloc | apply Kd.R_drewN | apply Kd.R_drew)); exact (Kd.R_mono (Kd.R_far (p := ⟨gb299, 2, none⟩) (Kd.R_far (p := ⟨gb299, 1, none⟩) (Kd.R_far (p := ⟨gb299, 0, none⟩) (Kd.R_types HO291.out BK299.out (by decide)) (fun _ hk => hk.2) (.string t295)) (fun _ hk => hk.2) (.string t296)) (fun _ hk => hk.2) (.string t297)) (fun _ h_ => h_.1)))); (case side2 => exact (Kd.R_reads' HO291.out).2.1); rintro e w70 ⟨v301, rfl, ho0, hb⟩; refine ⟨_, rfl, ?_⟩; have n0_ := Aside0.mk (Kd.R_below (by (with_reducible repeat (first | apply Kd.R_alloc | apply Kd.R_drewN | apply Kd.R_drew)); exact (Kd.R_mono (Kd.R_far (p := ⟨gb299, 2, none⟩) (Kd.R_far (p := ⟨gb299, 1, none⟩) (Kd.R_far (p := ⟨gb299, 0, none⟩) (Kd.R_types HO291.out BK299.out (by decide)) (fun _ hk => hk.2) (.string t295)) (fun _ hk => hk.2) (.string t296)) (fun _ hk => hk.2) (.string t297)) (fun _ h_ => h_.1))) hb); have n1_ := Aside0.mk (Kd.R_lower ho0 (below_size bwS)); have n2_ := Aside0.mk (blk_below (g := gb294) (o := .cells #[.slice Ao63 t289.length co63, .string t292] 25 (0, 0)) (by (with_reducible repeat (first | refine blk_drewN ?_ _ | refine blk_drew ?_ | refine blk_alloc ?_ _)); refine blk_far ?_ NB294_299.out _; (with_reducible repeat (first | refine blk_drewN ?_ _ | refine blk_drew ?_ | refine blk_alloc ?_ _)); refine blk_far ?_ NB294_299.out _; (with_reducible repeat (first | refine blk_drewN ?_ _ | refine blk_drew ?_ | refine blk_alloc ?_ _)); refine blk_far ?_ NB294_299.out _; (with_reducible repeat (first | refine blk_drewN ?_ _ | refine blk_drew ?_ | refine blk_alloc ?_ _)); exact BK294.out) hb); have n3_ := Aside0.mk (blk_below (g := gb299) (o := .cells #[.string t295, .string t296, .string t297] 53 (0, 0)) (by (with_reducible repeat (first | refine blk_drewN ?_ _ | refine blk_drew ?_ | refine blk_alloc ?_ _)); refine blk_put (cs := #[.string t295, .string t296, .string (⟨#[]⟩ : ByteArray)]) ?_ 2 _ rfl; (with_reducible repeat (first | refine blk_drewN ?_ _ | refine blk_drew ?_ | refine blk_alloc ?_ _)); refine blk_put (cs := #[.string t295, .string (⟨#[]⟩ : ByteArray), .string (⟨#[]⟩ : ByteArray)]) ?_ 1 _ rfl; (with_reducible repeat (first | refine blk_drewN ?_ _ | refine blk_drew ?_ | refine blk_alloc ?_ _)); exact blk_put (cs := #[.string (⟨#[]⟩ : ByteArray), .string (⟨#[]⟩ : ByteArray), .string (⟨#[]⟩ : ByteArray)]) bk 0 _ rfl) hb); have n4_ := Aside0.mk (below_step bwS hb); clear HO291; clear BK294; clear BK299; clear HB; have HO291 := n0_; have HO302 := n1_; have BK294 := n2_; have BK299 := n3_; have HB := n4_; clear n0_ n1_ n2_ n3_ n4_; (try clear hb); (try clear hb2); (try clear hk); (try clear hi); (try clear ho0); have hcz71_0 : w70.cell? ⟨gb299, 0, none⟩ = some (.string t295) := (blk_cell BK299.out 0).trans rfl; have hcz71_1 : w70.cell? ⟨gb299, 1, none⟩ = some (.string t296) := (blk_cell BK299.out 1).trans rfl; have hcz71_2 : w70.cell? ⟨gb299, 2, none⟩ = some (.string t297) := (blk_cell BK299.out 2).trans rfl; have hfz71_0 := blk_frozen BK299.out 0; have hfz71_1 := blk_frozen BK299.out 1; have hfz71_2 := blk_frozen BK299.out 2))
    go_ret
    exact ⟨ew, bwS⟩
  ·rw [if_neg c5] at H; have c5b0 : (t298 == 0) = false := beq_eq_false_iff_ne.mpr c5; have c5b1 : (t298 != 0) = true := bne_iff_ne.mpr c5; obtain rfl := Option.some.inj H
   go_enter Tryz.func9, Tryz.ntmps9
   go_wp2_with (first | ((with_reducible refine gate_callee (f := 10) rfl ?_); refine goesL_ (some 7) rfl rfl Tryz.func10 (by kernel_rfl) rfl #[.string (⟨#[70, 114, 111, 109, 58, 32, 65, 110, 110, 32, 60, 97, 64, 98, 62, 13, 10, 13, 10, 104, 105, 13, 10]⟩ : ByteArray)] rfl am ?_; (with_reducible refine (msg_Parse.calls (hG := by first | exact hG | exact Glob.below hG (by first | exact HB.out | (repeat (first | (with_reducible first | exact HB.out | apply below_alloc | apply pw_below_drewN | apply below_drew1 | refine below_set ?_ GE294.out | refine below_set ?_ GE299.out) | exact HB.out))) | exact Glob.drawn hG (d0)) k (⟨#[70, 114, 111, 109, 58, 32, 65, 110, 110, 32, 60, 97, 64, 98, 62, 13, 10, 13, 10, 104, 105, 13, 10]⟩ : ByteArray) t289 t292 t293 _ A1.out).mono ?_); rintro e w72 ⟨v290, rfl, ho0, hb⟩; refine ⟨_, rfl, ?_⟩; have n0_ := Aside0.mk (Kd.R_lower ho0 (below_size bw)); have n1_ := Aside0.mk (below_step bw hb); clear HB; have HO291 := n0_; have HB := n1_; clear n0_ n1_; (try clear hb); (try clear hb2); (try clear hk); (try clear hi); (try clear ho0)) | ((with_reducible refine gate_dst (N := 1) rfl ?_); (try (refine gate_guard (by rfl) ?_; dsimp only)); refine box_event ?hg (N := 1) ?hd (cs := #[.slice none 0 0, .string (⟨#[]⟩ : ByteArray)]) (t := 25) ?hr ?_; (case hd => rfl); (case hg => rfl); (case hr => first | (go_simp; done) | (go_simp; rfl)); intro gb294 hg w73 hbox hb; have n0_ := Aside0.mk (Kd.R_below (ra HO291.out) hb); have n1_ := Aside0.mk (below_step bw hb); have n2_ := Aside0.mk (hbox); have n3_ := Aside0.mk ((by rw [hg]; exact (below_size bw) : w.heap.size ≤ gb294)); have n4_ := Aside0.mk ((by rw [hg]; exact (below_size bw) : w.heap.size ≤ gb294)); clear HO291; clear HB; have HO291 := n0_; have HB := n1_; have BK294 := n2_; have GW294 := n3_; have GE294 := n4_; clear n0_ n1_ n2_ n3_ n4_; clear hb hbox hg; obtain ⟨Ao74, co74, eo74⟩ := Kd.R_slice HO291.out; subst eo74; have hcz75_0 : w73.cell? ⟨gb294, 0, none⟩ = some (.slice none 0 0) := (blk_cell BK294.out 0).trans rfl; have hcz75_1 : w73.cell? ⟨gb294, 1, none⟩ = some (.string (⟨#[]⟩ : ByteArray)) := (blk_cell BK294.out 1).trans rfl; have hfz75_0 := blk_frozen BK294.out 0; have hfz75_1 := blk_frozen BK294.out 1) | ((with_reducible refine gate_callee (f := 22) rfl ?_); refine goesL_ (some 12) rfl rfl Tryz.func22 (by kernel_rfl) rfl #[.agg #[.slice Ao74 t289.length co74, .string t292]] rfl am ?_; (with_reducible refine (msg_Message_From.calls (hG := by first | exact hG | exact Glob.below hG (by first | exact HB.out | (repeat (first | (with_reducible first | exact HB.out | apply below_alloc | apply pw_below_drewN | apply below_drew1 | refine below_set ?_ GE294.out | refine below_set ?_ GE299.out) | exact HB.out))) | exact Glob.drawn hG (d0)) k _ _ t289 t292 t295 t296 t297 t298 _ ?side1 ?side2 A2.out).mono ?_); (case side1 => refine (Kd.R_reads' (e := 46) (base := w.heap.size) (ok := fun k_ => True) (n := t289.length) (c := co74) ?_).2.2; exact (by (with_reducible repeat (first | apply Kd.R_alloc | apply Kd.R_drewN | apply Kd.R_drew)); exact (Kd.R_mono (Kd.R_far (p := ⟨gb294, 1, none⟩) (Kd.R_far (p := ⟨gb294, 0, none⟩) (Kd.R_types HO291.out BK294.out (by decide)) (fun _ hk => hk.2) (.slice Ao74 t289.length co74)) (fun _ hk => hk.2) (.string t292)) (fun _ h_ => h_.1)))); (case side2 => exact (Kd.R_reads' HO291.out).2.1); rintro e w76 ⟨rfl, hb⟩; refine ⟨_, rfl, ?_⟩; have n0_ := Aside0.mk (Kd.R_below (by (with_reducible repeat (first | apply Kd.R_alloc | apply Kd.R_drewN | apply Kd.R_drew)); exact (Kd.R_mono (Kd.R_far (p := ⟨gb294, 1, none⟩) (Kd.R_far (p := ⟨gb294, 0, none⟩) (Kd.R_types HO291.out BK294.out (by decide)) (fun _ hk => hk.2) (.slice Ao74 t289.length co74)) (fun _ hk => hk.2) (.string t292)) (fun _ h_ => h_.1))) hb); have n1_ := Aside0.mk (blk_below (g := gb294) (o := .cells #[.slice Ao74 t289.length co74, .string t292] 25 (0, 0)) (by (with_reducible repeat (first | refine blk_drewN ?_ _ | refine blk_drew ?_ | refine blk_alloc ?_ _)); refine blk_put (cs := #[.slice Ao74 t289.length co74, .string (⟨#[]⟩ : ByteArray)]) ?_ 1 _ rfl; (with_reducible repeat (first | refine blk_drewN ?_ _ | refine blk_drew ?_ | refine blk_alloc ?_ _)); exact blk_put (cs := #[.slice none 0 0, .string (⟨#[]⟩ : ByteArray)]) bk 0 _ rfl) hb); have n2_ := Aside0.mk (below_step bwS hb); clear HO291; clear BK294; clear HB; have HO291 := n0_; have BK294 := n1_; have HB := n2_; clear n0_ n1_ n2_; (try clear hb); (try clear hb2); (try clear hk); (try clear hi)) | ((with_reducible refine gate_dst (N := 3) rfl ?_); (try (refine gate_guard (by rfl) ?_; dsimp only)); refine box_event ?hg (N := 3) ?hd (cs := #[.string (⟨#[]⟩ : ByteArray), .string (⟨#[]⟩ : ByteArray), .string (⟨#[]⟩ : ByteArray)]) (t := 53) ?hr ?_; (case hd => rfl); (case hg => rfl); (case hr => first | (go_simp; done) | (go_simp; rfl)); intro gb299 hg w77 hbox hb; have n0_ := Aside0.mk (Kd.R_below (ra HO291.out) hb); have n1_ := Aside0.mk (blk_below (g := gb294) (o := .cells #[.slice Ao74 t289.length co74, .string t292] 25 (0, 0)) bk hb); have n2_ := Aside0.mk (below_step bwS hb); have n3_ := Aside0.mk (hbox); have n4_ := Aside0.mk ((by rw [hg]; exact (below_size bwS) : w.heap.size ≤ gb299)); have n5_ := Aside0.mk ((by rw [hg]; exact (below_size bwS) : w.heap.size ≤ gb299)); have n6_ := Aside0.mk ((by rw [hg]; exact Nat.ne_of_lt (blk_lt (g := gb294) (o := .cells #[.slice Ao74 t289.length co74, .string t292] 25 (0, 0)) bk) : gb294 ≠ gb299)); have n7_ := Aside0.mk ((by rw [hg]; exact Nat.ne_of_gt (blk_lt (g := gb294) (o := .cells #[.slice Ao74 t289.length co74, .string t292] 25 (0, 0)) bk) : gb299 ≠ gb294)); clear HO291; clear BK294; clear HB; have HO291 := n0_; have BK294 := n1_; have HB := n2_; have BK299 := n3_; have GW299 := n4_; have GE299 := n5_; have NB294_299 := n6_; have NB299_294 := n7_; clear n0_ n1_ n2_ n3_ n4_ n5_ n6_ n7_; clear hb hbox hg; have hnb78 := NB299_294.out; have hnc78 := NB294_299.out; have hcz79_0 : w77.cell? ⟨gb299, 0, none⟩ = some (.string (⟨#[]⟩ : ByteArray)) := (blk_cell BK299.out 0).trans rfl; have hcz79_1 : w77.cell? ⟨gb299, 1, none⟩ = some (.string (⟨#[]⟩ : ByteArray)) := (blk_cell BK299.out 1).trans rfl; have hcz79_2 : w77.cell? ⟨gb299, 2, none⟩ = some (.string (⟨#[]⟩ : ByteArray)) := (blk_cell BK299.out 2).trans rfl; have hfz79_0 := blk_frozen BK299.out 0; have hfz79_1 := blk_frozen BK299.out 1; have hfz79_2 := blk_frozen BK299.out 2; have hcz80_0 : w77.cell? ⟨gb294, 0, none⟩ = some (.slice Ao74 t289.length co74) := (blk_cell BK294.out 0).trans rfl; have hcz80_1 : w77.cell? ⟨gb294, 1, none⟩ = some (.string t292) := (blk_cell BK294.out 1).trans rfl; have hfz80_0 := blk_frozen BK294.out 0; have hfz80_1 := blk_frozen BK294.out 1) | ((with_reducible refine gate_callee (f := 16) rfl ?_); refine goesL_ (some 16) rfl rfl Tryz.func16 (by kernel_rfl) rfl #[.agg #[.slice Ao74 t289.length co74, .string t292]] rfl am ?_; (with_reducible refine (msg_Message_Lines.calls (hG := by first | exact hG | exact Glob.below hG (by first | exact HB.out | (repeat (first | (with_reducible first | exact HB.out | apply below_alloc | apply pw_below_drewN | apply below_drew1 | refine below_set ?_ GE294.out | refine below_set ?_ GE299.out) | exact HB.out))) | exact Glob.drawn hG (d0)) k _ _ t289 t292 t300 _ ?side1 ?side2 A3.out).mono ?_); (case side1 => refine (Kd.R_reads' (e := 46) (base := w.heap.size) (ok := fun k_ => True) (n := t289.length) (c := co74) ?_).2.2; exact (by (with_reducible repeat (first | apply Kd.R_alloc | apply Kd.R_drewN | apply Kd.R_drew)); exact (Kd.R_mono (Kd.R_far (p := ⟨gb299, 2, none⟩) (Kd.R_far (p := ⟨gb299, 1, none⟩) (Kd.R_far (p := ⟨gb299, 0, none⟩) (Kd.R_types HO291.out BK299.out (by decide)) (fun _ hk => hk.2) (.string t295)) (fun _ hk => hk.2) (.string t296)) (fun _ hk => hk.2) (.string t297)) (fun _ h_ => h_.1)))); (case side2 => exact (Kd.R_reads' HO291.out).2.1); rintro e w81 ⟨v301, rfl, ho0, hb⟩; refine ⟨_, rfl, ?_⟩; have n0_ := Aside0.mk (Kd.R_below (by (with_reducible repeat (first | apply Kd.R_alloc | apply Kd.R_drewN | apply Kd.R_drew)); exact (Kd.R_mono (Kd.R_far (p := ⟨gb299, 2, none⟩) (Kd.R_far (p := ⟨gb299, 1, none⟩) (Kd.R_far (p := ⟨gb299, 0, none⟩) (Kd.R_types HO291.out BK299.out (by decide)) (fun _ hk => hk.2) (.string t295)) (fun _ hk => hk.2) (.string t296)) (fun _ hk => hk.2) (.string t297)) (fun _ h_ => h_.1))) hb); have n1_ := Aside0.mk (Kd.R_lower ho0 (below_size bwS)); have n2_ := Aside0.mk (blk_below (g := gb294) (o := .cells #[.slice Ao74 t289.length co74, .string t292] 25 (0, 0)) (by (with_reducible repeat (first | refine blk_drewN ?_ _ | refine blk_drew ?_ | refine blk_alloc ?_ _)); refine blk_far ?_ NB294_299.out _; (with_reducible repeat (first | refine blk_drewN ?_ _ | refine blk_drew ?_ | refine blk_alloc ?_ _)); refine blk_far ?_ NB294_299.out _; (with_reducible repeat (first | refine blk_drewN ?_ _ | refine blk_drew ?_ | refine blk_alloc ?_ _)); refine blk_far ?_ NB294_299.out _; (with_reducible repeat (first | refine blk_drewN ?_ _ | refine blk_drew ?_ | refine blk_alloc ?_ _)); exact BK294.out) hb); have n3_ := Aside0.mk (blk_below (g := gb299) (o := .cells #[.string t295, .string t296, .string t297] 53 (0, 0)) (by (with_reducible repeat (first | refine blk_drewN ?_ _ | refine blk_drew ?_ | refine blk_alloc ?_ _)); refine blk_put (cs := #[.string t295, .string t296, .string (⟨#[]⟩ : ByteArray)]) ?_ 2 _ rfl; (with_reducible repeat (first | refine blk_drewN ?_ _ | refine blk_drew ?_ | refine blk_alloc ?_ _)); refine blk_put (cs := #[.string t295, .string (⟨#[]⟩ : ByteArray), .string (⟨#[]⟩ : ByteArray)]) ?_ 1 _ rfl; (with_reducible repeat (first | refine blk_drewN ?_ _ | refine blk_drew ?_ | refine blk_alloc ?_ _)); exact blk_put (cs := #[.string (⟨#[]⟩ : ByteArray), .string (⟨#[]⟩ : ByteArray), .string (⟨#[]⟩ : ByteArray)]) bk 0 _ rfl) hb); have n4_ := Aside0.mk (below_step bwS hb); clear HO291; clear BK294; clear BK299; clear HB; have HO291 := n0_; have HO302 := n1_; have BK294 := n2_; have BK299 := n3_; have HB := n4_; clear n0_ n1_ n2_ n3_ n4_; (try clear hb); (try clear hb2); (try clear hk); (try clear hi); (try clear ho0)))
   go_ret
   exact ⟨ew, bwS⟩
 ·rw [if_neg c4] at H; have c4b0 : (t293 == 0) = false := beq_eq_false_iff_ne.mpr c4; have c4b1 : (t293 != 0) = true := bne_iff_ne.mpr c4; obtain rfl := Option.some.inj H
  go_enter Tryz.func9, Tryz.ntmps9
  go_wp2_with (first | ((with_reducible refine gate_callee (f := 10) rfl ?_); refine goesL_ (some 7) rfl rfl Tryz.func10 (by kernel_rfl) rfl #[.string (⟨#[70, 114, 111, 109, 58, 32, 65, 110, 110, 32, 60, 97, 64, 98, 62, 13, 10, 13, 10, 104, 105, 13, 10]⟩ : ByteArray)] rfl am ?_; (with_reducible refine (msg_Parse.calls (hG := by first | exact hG | exact Glob.below hG (by first | exact HB.out | (repeat (first | (with_reducible first | exact HB.out | apply below_alloc | apply pw_below_drewN | apply below_drew1 | refine below_set ?_ GE294.out | refine below_set ?_ GE299.out) | exact HB.out))) | exact Glob.drawn hG (d0)) k (⟨#[70, 114, 111, 109, 58, 32, 65, 110, 110, 32, 60, 97, 64, 98, 62, 13, 10, 13, 10, 104, 105, 13, 10]⟩ : ByteArray) t289 t292 t293 _ A1.out).mono ?_); rintro e w82 ⟨v290, rfl, ho0, hb⟩; refine ⟨_, rfl, ?_⟩; have n0_ := Aside0.mk (Kd.R_lower ho0 (below_size bw)); have n1_ := Aside0.mk (below_step bw hb); clear HB; have HO291 := n0_; have HB := n1_; clear n0_ n1_; (try clear hb); (try clear hb2); (try clear hk); (try clear hi); (try clear ho0)) | ((with_reducible refine gate_dst (N := 1) rfl ?_); (try (refine gate_guard (by rfl) ?_; dsimp only)); refine box_event ?hg (N := 1) ?hd (cs := #[.slice none 0 0, .string (⟨#[]⟩ : ByteArray)]) (t := 25) ?hr ?_; (case hd => rfl); (case hg => rfl); (case hr => first | (go_simp; done) | (go_simp; rfl)); intro gb294 hg w83 hbox hb; have n0_ := Aside0.mk (Kd.R_below (ra HO291.out) hb); have n1_ := Aside0.mk (below_step bw hb); have n2_ := Aside0.mk (hbox); have n3_ := Aside0.mk ((by rw [hg]; exact (below_size bw) : w.heap.size ≤ gb294)); have n4_ := Aside0.mk ((by rw [hg]; exact (below_size bw) : w.heap.size ≤ gb294)); clear HO291; clear HB; have HO291 := n0_; have HB := n1_; have BK294 := n2_; have GW294 := n3_; have GE294 := n4_; clear n0_ n1_ n2_ n3_ n4_; clear hb hbox hg; obtain ⟨Ao84, co84, eo84⟩ := Kd.R_slice HO291.out; subst eo84; have hcz85_0 : w83.cell? ⟨gb294, 0, none⟩ = some (.slice none 0 0) := (blk_cell BK294.out 0).trans rfl; have hcz85_1 : w83.cell? ⟨gb294, 1, none⟩ = some (.string (⟨#[]⟩ : ByteArray)) := (blk_cell BK294.out 1).trans rfl; have hfz85_0 := blk_frozen BK294.out 0; have hfz85_1 := blk_frozen BK294.out 1) | ((with_reducible refine gate_callee (f := 22) rfl ?_); refine goesL_ (some 12) rfl rfl Tryz.func22 (by kernel_rfl) rfl #[.agg #[.slice Ao84 t289.length co84, .string t292]] rfl am ?_; (with_reducible refine (msg_Message_From.calls (hG := by first | exact hG | exact Glob.below hG (by first | exact HB.out | (repeat (first | (with_reducible first | exact HB.out | apply below_alloc | apply pw_below_drewN | apply below_drew1 | refine below_set ?_ GE294.out | refine below_set ?_ GE299.out) | exact HB.out))) | exact Glob.drawn hG (d0)) k _ _ t289 t292 t295 t296 t297 t298 _ ?side1 ?side2 A2.out).mono ?_); (case side1 => refine (Kd.R_reads' (e := 46) (base := w.heap.size) (ok := fun k_ => True) (n := t289.length) (c := co84) ?_).2.2; exact (by (with_reducible repeat (first | apply Kd.R_alloc | apply Kd.R_drewN | apply Kd.R_drew)); exact (Kd.R_mono (Kd.R_far (p := ⟨gb294, 1, none⟩) (Kd.R_far (p := ⟨gb294, 0, none⟩) (Kd.R_types HO291.out BK294.out (by decide)) (fun _ hk => hk.2) (.slice Ao84 t289.length co84)) (fun _ hk => hk.2) (.string t292)) (fun _ h_ => h_.1)))); (case side2 => exact (Kd.R_reads' HO291.out).2.1); rintro e w86 ⟨rfl, hb⟩; refine ⟨_, rfl, ?_⟩; have n0_ := Aside0.mk (Kd.R_below (by (with_reducible repeat (first | apply Kd.R_alloc | apply Kd.R_drewN | apply Kd.R_drew)); exact (Kd.R_mono (Kd.R_far (p := ⟨gb294, 1, none⟩) (Kd.R_far (p := ⟨gb294, 0, none⟩) (Kd.R_types HO291.out BK294.out (by decide)) (fun _ hk => hk.2) (.slice Ao84 t289.length co84)) (fun _ hk => hk.2) (.string t292)) (fun _ h_ => h_.1))) hb); have n1_ := Aside0.mk (blk_below (g := gb294) (o := .cells #[.slice Ao84 t289.length co84, .string t292] 25 (0, 0)) (by (with_reducible repeat (first | refine blk_drewN ?_ _ | refine blk_drew ?_ | refine blk_alloc ?_ _)); refine blk_put (cs := #[.slice Ao84 t289.length co84, .string (⟨#[]⟩ : ByteArray)]) ?_ 1 _ rfl; (with_reducible repeat (first | refine blk_drewN ?_ _ | refine blk_drew ?_ | refine blk_alloc ?_ _)); exact blk_put (cs := #[.slice none 0 0, .string (⟨#[]⟩ : ByteArray)]) bk 0 _ rfl) hb); have n2_ := Aside0.mk (below_step bwS hb); clear HO291; clear BK294; clear HB; have HO291 := n0_; have BK294 := n1_; have HB := n2_; clear n0_ n1_ n2_; (try clear hb); (try clear hb2); (try clear hk); (try clear hi)) | ((with_reducible refine gate_dst (N := 3) rfl ?_); (try (refine gate_guard (by rfl) ?_; dsimp only)); refine box_event ?hg (N := 3) ?hd (cs := #[.string (⟨#[]⟩ : ByteArray), .string (⟨#[]⟩ : ByteArray), .string (⟨#[]⟩ : ByteArray)]) (t := 53) ?hr ?_; (case hd => rfl); (case hg => rfl); (case hr => first | (go_simp; done) | (go_simp; rfl)); intro gb299 hg w87 hbox hb; have n0_ := Aside0.mk (Kd.R_below (ra HO291.out) hb); have n1_ := Aside0.mk (blk_below (g := gb294) (o := .cells #[.slice Ao84 t289.length co84, .string t292] 25 (0, 0)) bk hb); have n2_ := Aside0.mk (below_step bwS hb); have n3_ := Aside0.mk (hbox); have n4_ := Aside0.mk ((by rw [hg]; exact (below_size bwS) : w.heap.size ≤ gb299)); have n5_ := Aside0.mk ((by rw [hg]; exact (below_size bwS) : w.heap.size ≤ gb299)); have n6_ := Aside0.mk ((by rw [hg]; exact Nat.ne_of_lt (blk_lt (g := gb294) (o := .cells #[.slice Ao84 t289.length co84, .string t292] 25 (0, 0)) bk) : gb294 ≠ gb299)); have n7_ := Aside0.mk ((by rw [hg]; exact Nat.ne_of_gt (blk_lt (g := gb294) (o := .cells #[.slice Ao84 t289.length co84, .string t292] 25 (0, 0)) bk) : gb299 ≠ gb294)); clear HO291; clear BK294; clear HB; have HO291 := n0_; have BK294 := n1_; have HB := n2_; have BK299 := n3_; have GW299 := n4_; have GE299 := n5_; have NB294_299 := n6_; have NB299_294 := n7_; clear n0_ n1_ n2_ n3_ n4_ n5_ n6_ n7_; clear hb hbox hg; have hnb88 := NB299_294.out; have hnc88 := NB294_299.out; have hcz89_0 : w87.cell? ⟨gb299, 0, none⟩ = some (.string (⟨#[]⟩ : ByteArray)) := (blk_cell BK299.out 0).trans rfl; have hcz89_1 : w87.cell? ⟨gb299, 1, none⟩ = some (.string (⟨#[]⟩ : ByteArray)) := (blk_cell BK299.out 1).trans rfl; have hcz89_2 : w87.cell? ⟨gb299, 2, none⟩ = some (.string (⟨#[]⟩ : ByteArray)) := (blk_cell BK299.out 2).trans rfl; have hfz89_0 := blk_frozen BK299.out 0; have hfz89_1 := blk_frozen BK299.out 1; have hfz89_2 := blk_frozen BK299.out 2; have hcz90_0 : w87.cell? ⟨gb294, 0, none⟩ = some (.slice Ao84 t289.length co84) := (blk_cell BK294.out 0).trans rfl; have hcz90_1 : w87.cell? ⟨gb294, 1, none⟩ = some (.string t292) := (blk_cell BK294.out 1).trans rfl; have hfz90_0 := blk_frozen BK294.out 0; have hfz90_1 := blk_frozen BK294.out 1) | ((with_reducible refine gate_callee (f := 16) rfl ?_); refine goesL_ (some 16) rfl rfl Tryz.func16 (by kernel_rfl) rfl #[.agg #[.slice Ao84 t289.length co84, .string t292]] rfl am ?_; (with_reducible refine (msg_Message_Lines.calls (hG := by first | exact hG | exact Glob.below hG (by first | exact HB.out | (repeat (first | (with_reducible first | exact HB.out | apply below_alloc | apply pw_below_drewN | apply below_drew1 | refine below_set ?_ GE294.out | refine below_set ?_ GE299.out) | exact HB.out))) | exact Glob.drawn hG (d0)) k _ _ t289 t292 t300 _ ?side1 ?side2 A3.out).mono ?_); (case side1 => refine (Kd.R_reads' (e := 46) (base := w.heap.size) (ok := fun k_ => True) (n := t289.length) (c := co84) ?_).2.2; exact (by (with_reducible repeat (first | apply Kd.R_alloc | apply Kd.R_drewN | apply Kd.R_drew)); exact (Kd.R_mono (Kd.R_far (p := ⟨gb299, 2, none⟩) (Kd.R_far (p := ⟨gb299, 1, none⟩) (Kd.R_far (p := ⟨gb299, 0, none⟩) (Kd.R_types HO291.out BK299.out (by decide)) (fun _ hk => hk.2) (.string t295)) (fun _ hk => hk.2) (.string t296)) (fun _ hk => hk.2) (.string t297)) (fun _ h_ => h_.1)))); (case side2 => exact (Kd.R_reads' HO291.out).2.1); rintro e w91 ⟨v301, rfl, ho0, hb⟩; refine ⟨_, rfl, ?_⟩; have n0_ := Aside0.mk (Kd.R_below (by (with_reducible repeat (first | apply Kd.R_alloc | apply Kd.R_drewN | apply Kd.R_drew)); exact (Kd.R_mono (Kd.R_far (p := ⟨gb299, 2, none⟩) (Kd.R_far (p := ⟨gb299, 1, none⟩) (Kd.R_far (p := ⟨gb299, 0, none⟩) (Kd.R_types HO291.out BK299.out (by decide)) (fun _ hk => hk.2) (.string t295)) (fun _ hk => hk.2) (.string t296)) (fun _ hk => hk.2) (.string t297)) (fun _ h_ => h_.1))) hb); have n1_ := Aside0.mk (Kd.R_lower ho0 (below_size bwS)); have n2_ := Aside0.mk (blk_below (g := gb294) (o := .cells #[.slice Ao84 t289.length co84, .string t292] 25 (0, 0)) (by (with_reducible repeat (first | refine blk_drewN ?_ _ | refine blk_drew ?_ | refine blk_alloc ?_ _)); refine blk_far ?_ NB294_299.out _; (with_reducible repeat (first | refine blk_drewN ?_ _ | refine blk_drew ?_ | refine blk_alloc ?_ _)); refine blk_far ?_ NB294_299.out _; (with_reducible repeat (first | refine blk_drewN ?_ _ | refine blk_drew ?_ | refine blk_alloc ?_ _)); refine blk_far ?_ NB294_299.out _; (with_reducible repeat (first | refine blk_drewN ?_ _ | refine blk_drew ?_ | refine blk_alloc ?_ _)); exact BK294.out) hb); have n3_ := Aside0.mk (blk_below (g := gb299) (o := .cells #[.string t295, .string t296, .string t297] 53 (0, 0)) (by (with_reducible repeat (first | refine blk_drewN ?_ _ | refine blk_drew ?_ | refine blk_alloc ?_ _)); refine blk_put (cs := #[.string t295, .string t296, .string (⟨#[]⟩ : ByteArray)]) ?_ 2 _ rfl; (with_reducible repeat (first | refine blk_drewN ?_ _ | refine blk_drew ?_ | refine blk_alloc ?_ _)); refine blk_put (cs := #[.string t295, .string (⟨#[]⟩ : ByteArray), .string (⟨#[]⟩ : ByteArray)]) ?_ 1 _ rfl; (with_reducible repeat (first | refine blk_drewN ?_ _ | refine blk_drew ?_ | refine blk_alloc ?_ _)); exact blk_put (cs := #[.string (⟨#[]⟩ : ByteArray), .string (⟨#[]⟩ : ByteArray), .string (⟨#[]⟩ : ByteArray)]) bk 0 _ rfl) hb); have n4_ := Aside0.mk (below_step bwS hb); clear HO291; clear BK294; clear BK299; clear HB; have HO291 := n0_; have HO302 := n1_; have BK294 := n2_; have BK299 := n3_; have HB := n4_; clear n0_ n1_ n2_ n3_ n4_; (try clear hb); (try clear hb2); (try clear hk); (try clear hi); (try clear ho0)))
  go_ret
  exact ⟨ew, bwS⟩

end Go.Proofs.YtbjbpgmjijeppaaGreatDoor.Fn
namespace Go.Proofs.YtbjbpgmjijeppaaGreatDoor.Fn
open Go.RowKit Go.Proofs.YtbjbpgmjijeppaaGreatDoorW.PrintWords Go.Proofs.YtbjbpgmjijeppaaGreatDoorW.PrintLast Go.Proofs.YtbjbpgmjijeppaaGreatDoorW.PrintMore
attribute [local go_sem] max2_int min2_int max_two min_two max_three min_three max_four min_four
set_option linter.unusedVariables false
set_option linter.unusedSimpArgs false

def bulletinref15_Same.f (k : Nat) (a0 : ByteArray) (a1 : ByteArray) : Option (Bool) := (bulletinref06_Fold.f k a0).bind fun t449 => ((bulletinref06_Fold.f k a1).bind fun t450 => (some (t449.toList == t450.toList)))
set_option maxHeartbeats 8000000 in
set_option maxRecDepth 100000 in
theorem bulletinref15_Same.calls (k : Nat) (a0 : ByteArray) (a1 : ByteArray) (r : Bool) (w : World) (h : bulletinref15_Same.f k a0 a1 = some r) :
  Calls Tryz.prog 57 #[.string a0, .string a1] w fun e w' => e = .returned (.bool r) ∧ Below w.heap.size w w' := by
 have HB := Aside0.mk (Below.refl w.heap.size w); have H : ((bulletinref06_Fold.f k a0).bind fun t449 => ((bulletinref06_Fold.f k a1).bind fun t450 => (some (t449.toList == t450.toList)))) = some r := h; clear h; replace H := Option.bind_eq_some_iff.mp H; obtain ⟨t449, A30, H⟩ := H; replace H : ((bulletinref06_Fold.f k a1).bind fun t450 => (some (t449.toList == t450.toList))) = some r := H; have A3 := Aside0.mk A30; clear A30; replace H := Option.bind_eq_some_iff.mp H; obtain ⟨t450, A40, H⟩ := H; replace H : (some (t449.toList == t450.toList)) = some r := H; have A4 := Aside0.mk A40; clear A40; obtain rfl := Option.some.inj H
 go_enter Tryz.func57, Tryz.ntmps57
 go_wp2_with (first | ((with_reducible refine gate_callee (f := 56) rfl ?_); refine goesL_ (some 6) rfl rfl Tryz.func56 (by kernel_rfl) rfl #[.string a0] rfl am ?_; (with_reducible refine (bulletinref06_Fold.calls k a0 t449 _ A3.out).mono ?_); rintro e w5 ⟨rfl, hb⟩; refine ⟨_, rfl, ?_⟩; have n0_ := Aside0.mk (below_step bw hb); clear HB; have HB := n0_; clear n0_; (try clear hb); (try clear hb2); (try clear hk); (try clear hi)) | ((with_reducible refine gate_callee (f := 56) rfl ?_); refine goesL_ (some 8) rfl rfl Tryz.func56 (by kernel_rfl) rfl #[.string a1] rfl am ?_; (with_reducible refine (bulletinref06_Fold.calls k a1 t450 _ A4.out).mono ?_); rintro e w6 ⟨rfl, hb⟩; refine ⟨_, rfl, ?_⟩; have n0_ := Aside0.mk (below_step bw hb); clear HB; have HB := n0_; clear n0_; (try clear hb); (try clear hb2); (try clear hk); (try clear hi)))
 go_ret
 exact ⟨ew, bw⟩

end Go.Proofs.YtbjbpgmjijeppaaGreatDoor.Fn
namespace Go.Proofs.YtbjbpgmjijeppaaGreatDoor.Fn
open Go.RowKit Go.Proofs.YtbjbpgmjijeppaaGreatDoorW.PrintWords Go.Proofs.YtbjbpgmjijeppaaGreatDoorW.PrintLast Go.Proofs.YtbjbpgmjijeppaaGreatDoorW.PrintMore
attribute [local go_sem] max2_int min2_int max_two min_two max_three min_three max_four min_four
set_option linter.unusedVariables false
set_option linter.unusedSimpArgs false

mutual
def bulletinref15_Put.l0 : Nat → List (S67) → List (S67) → Bool → Int → ByteArray → ByteArray → Option ((List (S67)))
 | 0, _, _, _, _, _, _ => none
 | k + 1, x0, x5, x6, x7, x621000, x621001 => if x7 < (x0.length : Int) then (if 0 ≤ x7 then ((bulletinref15_Same.f k ((rd_T67 x0 x7).f0) x621000).bind fun t625 => (if t625 = true then (bulletinref15_Put.j1 k x0 x5 x6 x7 t625 (!x6) x621000 x621001) else (bulletinref15_Put.j1 k x0 x5 x6 x7 t625 false x621000 x621001))) else (none)) else (if x6 = true then (some x5) else (if x5.length < 4398046511104 then (some (x5 ++ [(⟨x621000, x621001⟩ : S67)])) else (none)))
def bulletinref15_Put.j1 : Nat → List (S67) → List (S67) → Bool → Int → Bool → Bool → ByteArray → ByteArray → Option ((List (S67)))
 | 0, _, _, _, _, _, _, _, _ => none
 | k + 1, x0, x5, x6, x7, x8, x27, x621000, x621001 => if x27 = true then (if x5.length < 4398046511104 then ((some (x5 ++ [(⟨x621000, x621001⟩ : S67)] : List (S67))).bind fun y626 => (if x8 = true then (bulletinref15_Put.l0 k x0 y626 true (wrap64 (x7 + 1)) x621000 x621001) else (if 0 ≤ x7 then (if x7 < (x0.length : Int) then (if y626.length < 4398046511104 then (bulletinref15_Put.l0 k x0 (y626 ++ [(⟨(rd_T67 x0 x7).f0, (rd_T67 x0 x7).f1⟩ : S67)]) true (wrap64 (x7 + 1)) x621000 x621001) else (none)) else (none)) else (none)))) else (none)) else (if x8 = true then (bulletinref15_Put.l0 k x0 x5 x6 (wrap64 (x7 + 1)) x621000 x621001) else (if 0 ≤ x7 then (if x7 < (x0.length : Int) then (if x5.length < 4398046511104 then (bulletinref15_Put.l0 k x0 (x5 ++ [(⟨(rd_T67 x0 x7).f0, (rd_T67 x0 x7).f1⟩ : S67)]) x6 (wrap64 (x7 + 1)) x621000 x621001) else (none)) else (none)) else (none)))
end
def bulletinref15_Put.f (k : Nat) (l0 : List (S67)) (a1_0 : ByteArray) (a1_1 : ByteArray) : Option ((List (S67))) := bulletinref15_Put.l0 k l0 ([] : List (S67)) false 0 a1_0 a1_1
def bulletinref15_Put.T6 : Bool × List (List Nat × List Nat) := (true, [([], []), ([], []), ([0, 1], [0, 1]), ([2], [2]), ([3], [3]), ([], []), ([5], [5]), ([4, 6], [4, 6]), ([7, 7, 0, 1, 2, 3, 4, 5, 6, 7], [7])])
def bulletinref15_Put.B6 : List Nat := [0, 0, 3, 7, 15, 0, 32, 127, 255]
theorem bulletinref15_Put.tab6 : rtab .any (opsOf Tryz.f35 6) = bulletinref15_Put.T6 := by kernel_rfl
theorem bulletinref15_Put.bits6 : waitsOk bulletinref15_Put.T6.2 bulletinref15_Put.B6 = true := by kernel_rfl
set_option maxHeartbeats 8000000 in
set_option maxRecDepth 100000 in
theorem bulletinref15_Put.calls (k : Nat) (A0 : Option Addr) (c0 : Nat) (l0 : List (S67)) (a1_0 : ByteArray) (a1_1 : ByteArray) (r : List (S67)) (w : World) (hr0 : Kd.C k67 w A0 l0.length l0) (hc0 : l0.length ≤ c0) (h : bulletinref15_Put.f k l0 a1_0 a1_1 = some r) :
  Calls Tryz.prog 35 #[.slice A0 l0.length c0, .agg #[.string a1_0, .string a1_1]] w fun e w' => ∃ v0_ : Value, e = .returned (v0_) ∧ Kd.R k67 67 w' w.heap.size (fun _ => True) v0_ r ∧ Below w.heap.size w w' := by
 have hu67 := Tryz.underlying67; have HR0 := Aside0.mk hr0; have HC0 := Aside0.mk hc0; clear hr0 hc0; have HB := Aside0.mk (Below.refl w.heap.size w); have H : (bulletinref15_Put.l0 k l0 ([] : List (S67)) false 0 a1_0 a1_1) = some r := h; clear h; have H' := Aside0.mk H; clear H
 go_enter Tryz.func35, Tryz.ntmps35
 go_wp2_with (first | ((with_reducible refine gate_dst (N := 3) rfl ?_); refine box_event ?hg (N := 3) ?hd (cs := #[.string a1_0, .string a1_1]) (t := 67) ?hr ?_; (case hd => rfl); (case hg => rfl); (case hr => first | (go_simp; done) | (go_simp; rfl)); intro gb620 hg w3 hbox hb; have n0_ := Aside0.mk (below_step bw hb); have n1_ := Aside0.mk (hbox); have n2_ := Aside0.mk ((by rw [hg]; exact (below_size bw) : w.heap.size ≤ gb620)); have n3_ := Aside0.mk ((by rw [hg]; exact (below_size bw) : w.heap.size ≤ gb620)); clear HB; have HB := n0_; have BK620 := n1_; have GW620 := n2_; have GE620 := n3_; clear n0_ n1_ n2_ n3_; clear hb hbox hg))
 go_loopg [5, 6, 7] k (fun kq v5 v6 v7 w' => ∃ (x5_1 : List (S67)) (x6_1 : Bool) (x7_1 : Int), v6 = .bool x6_1 ∧ v7 = .int .i64 x7_1 ∧ Aside0 (bulletinref15_Put.l0 kq l0 x5_1 x6_1 x7_1 a1_0 a1_1 = some r) ∧ Aside0 (kq ≤ k) ∧ Aside0 (Kd.R k67 67 w' w.heap.size (fun k_ => k_ ≠ gb620) v5 x5_1) ∧ Aside0 (w'.heap[gb620]? = some (.cells #[.string a1_0, .string a1_1] 67 (0, 0))) ∧ Aside0 (Below w.heap.size w w'))
 case atStart => exact ⟨(([] : List (S67))), (false), (0), cl, cl, H', ⟨Nat.le_refl _⟩, ⟨by first | exact Kd.R_nil _ _ _ _ _ | exact Kd.N_nil _ _ _ _ _ | exact Kd.V_nil _ _ _ _ _ | exact Kd.Q_nil _ _ _ _ _ | exact Kd.S_nil _ _ _ _ _⟩, ⟨bk⟩, ⟨bwS⟩⟩
 case round =>
  clear H'
  try clear p2
  try clear c3
  obtain ⟨x5_1, x6_1, x7_1, rfl, rfl, HA, HK1, HO_5, BK620, HB⟩ := hrel; cases gk with
  | zero => exact absurd HA.out (by simp [bulletinref15_Put.l0])
  | succ k1 =>
   have H := HA.out; clear HA; simp only [bulletinref15_Put.l0] at H
   by_cases c4 : x7_1 < (l0.length : Int)
   ·rw [if_pos c4] at H; have c4b0 : decide (x7_1 < (l0.length : Int)) = true := decide_eq_true c4; clear c4
    by_cases c5 : 0 ≤ x7_1
    ·rw [if_pos c5] at H; have c5b0 : decide (0 ≤ x7_1) = true := decide_eq_true c5; clear c5; replace H := Option.bind_eq_some_iff.mp H; obtain ⟨t625, A60, H⟩ := H; replace H : (if t625 = true then (bulletinref15_Put.j1 k1 l0 x5_1 x6_1 x7_1 t625 (!x6_1) a1_0 a1_1) else (bulletinref15_Put.j1 k1 l0 x5_1 x6_1 x7_1 t625 false a1_0 a1_1)) = some r := H; have A6 := Aside0.mk A60; clear A60; have HC7 := Aside0.mk H; clear H
     try go_wp2
     have n0_ := Aside0.mk (Kd.R_drew HO_5.out); have n1_ := Aside0.mk (blk_drew BK620.out); have n2_ := Aside0.mk (below_drew1 HB.out); clear HO_5 BK620 HB; have HO_5 := n0_; have BK620 := n1_; have HB := n2_; clear n0_ n1_ n2_; have p624 : 0 ≤ (x7_1 : Int) := od; have q624 : x7_1 < (l0.length : Int) := od; obtain ⟨ad624, e624, hx624_0, hx624_1⟩ := at_T67 HR0.out x7_1 p624 q624; have hw624_1 := hx624_1; have hw624_0 := hx624_0; cases e624; replace hx624_0 := (HB.out.cell (World.block_lt_of_cell? w _ hx624_0)).trans hx624_0; replace hx624_1 := (HB.out.cell (World.block_lt_of_cell? w _ hx624_1)).trans hx624_1; replace p624 := eq_true p624; replace q624 := eq_true q624; refine start_ (n := 9) (S := fun w' => w'.cell? ⟨gb620, 0, none⟩ = some (.string a1_0) ∧ w'.cell? ⟨gb620, 1, none⟩ = some (.string a1_1) ∧ w'.cell? (ad624.add ((x7_1).toNat * 2)) = some (.string ((rd_T67 l0 x7_1).f0)) ∧ w'.cell? ⟨(ad624.add ((x7_1).toNat * 2)).block, (ad624.add ((x7_1).toNat * 2)).off + 1, none⟩ = some (.string ((rd_T67 l0 x7_1).f1))) (ds := []) #[false, false, false, false, false, false, false, false, false] (by kernel_rfl) rfl rfl ⟨(blk_cell BK620.out 0).trans rfl, (blk_cell BK620.out 1).trans rfl, ((HB.out.cell (World.block_lt_of_cell? w _ hw624_0)).trans hw624_0), ((HB.out.cell (World.block_lt_of_cell? w _ hw624_1)).trans hw624_1)⟩ (fun hHeld => ?_); refine with_tabW bulletinref15_Put.tab6 bulletinref15_Put.bits6 (fun HT_ HW_ => ?_)
     generalize wr.drew = w8 at HO_5 BK620 HB hx624_0 hx624_1 hHeld ⊢
     refine pure_ (i := 0) (N := some 15) (v := ?_) (a' := ?_) (bitsL 9 1) rfl rfl (any_of HT_.out (by kernel_rfl)) (fun _ _ _ h => h) (Or.inl ⟨by rfl, ?_⟩) ?_ ?_; rotate_left
     ·intro w'; go_simp; with_reducible rfl
     rotate_left
     ·simp only [Act.put, List.setIfInBounds_toArray, List.set_cons_zero, List.set_cons_succ, i64_w, i32_w]; rfl
     refine pure_ (i := 1) (N := some 16) (v := ?_) (a' := ?_) (bitsL 9 3) rfl rfl (any_of HT_.out (by kernel_rfl)) (fun _ _ _ h => h) (Or.inl ⟨by rfl, ?_⟩) ?_ ?_; rotate_left
     ·intro w'; go_simp; with_reducible rfl
     rotate_left
     ·simp only [Act.put, List.setIfInBounds_toArray, List.set_cons_zero, List.set_cons_succ, i64_w, i32_w]; rfl
     refine pure_ (i := 2) (N := some 17) (v := ?_) (a' := ?_) (bitsL 9 7) rfl rfl (any_of HT_.out (by kernel_rfl)) (fun _ _ _ h => h) (Or.inl ⟨by rfl, ?_⟩) ?_ ?_; rotate_left
     ·intro w'; go_simp; with_reducible rfl
     rotate_left
     ·simp only [Act.put, List.setIfInBounds_toArray, List.set_cons_zero, List.set_cons_succ, i64_w, i32_w]; rfl
     refine pure_ (i := 3) (N := some 18) (v := ?_) (a' := ?_) (bitsL 9 15) rfl rfl (any_of HT_.out (by kernel_rfl)) (fun _ _ _ h => h) (Or.inl ⟨by rfl, ?_⟩) ?_ ?_; rotate_left
     ·intro w'; go_simp; with_reducible rfl
     rotate_left
     ·simp only [Act.put, List.setIfInBounds_toArray, List.set_cons_zero, List.set_cons_succ, i64_w, i32_w]; rfl
     refine pure_ (i := 5) (N := some 20) (v := ?_) (a' := ?_) (bitsL 9 47) rfl rfl (any_of HT_.out (by kernel_rfl)) (fun _ _ _ h => h) (Or.inl ⟨by rfl, ?_⟩) ?_ ?_; rotate_left
     ·intro w'; go_simp; with_reducible rfl
     rotate_left
     ·simp only [Act.put, List.setIfInBounds_toArray, List.set_cons_zero, List.set_cons_succ, i64_w, i32_w]; rfl
     refine take_ (i := 4) (N := some 19) (v := ?_) (a' := ?_) (bitsL 9 63) rfl rfl (take_ofW HT_.out HW_.out (by kernel_rfl)) (fun _ _ _ h => h) (Or.inl ⟨by rfl, ?_⟩) hHeld ?_ ?_; rotate_left
     ·rintro w' ⟨s0, s1, s2, s3⟩; go_simp; with_reducible rfl
     rotate_left
     ·simp only [Act.put, List.setIfInBounds_toArray, List.set_cons_zero, List.set_cons_succ, i64_w, i32_w]; rfl
     refine take_ (i := 6) (N := some 21) (v := ?_) (a' := ?_) (bitsL 9 127) rfl rfl (take_ofW HT_.out HW_.out (by kernel_rfl)) (fun _ _ _ h => h) (Or.inl ⟨by rfl, ?_⟩) hHeld ?_ ?_; rotate_left
     ·rintro w' ⟨s0, s1, s2, s3⟩; go_simp; with_reducible rfl
     rotate_left
     ·simp only [Act.put, List.setIfInBounds_toArray, List.set_cons_zero, List.set_cons_succ, i64_w, i32_w]; rfl
     refine one_ (i := 7) (N := some 22) (bitsL 9 255) rfl rfl (one_of HT_.out (by kernel_rfl)) (by decide) (fun K hK => ?_); refine goes_ Tryz.func57 (by kernel_rfl) rfl #[.string ((rd_T67 l0 x7_1).f0), .string a1_0] (by rfl) rfl rfl am ?_; with_reducible refine (bulletinref15_Same.calls k1 ((rd_T67 l0 x7_1).f0) a1_0 t625 _ A6.out).mono ?_; rintro e w9 ⟨rfl, hb⟩; refine ⟨_, rfl, ?_⟩; have n0_ := Aside0.mk (Kd.R_below (ra HO_5.out) hb); have n1_ := Aside0.mk (blk_below (g := gb620) (o := .cells #[.string a1_0, .string a1_1] 67 (0, 0)) bk hb); have n2_ := Aside0.mk (below_step bwS hb); clear HO_5 BK620 HB; have HO_5 := n0_; have BK620 := n1_; have HB := n2_; clear n0_ n1_ n2_
     (try clear hb)
     (try clear hb2)
     (try clear hk)
     (try clear hi)
     refine hK.out _ _ ⟨(blk_cell BK620.out 0).trans rfl, (blk_cell BK620.out 1).trans rfl, ((HB.out.cell (World.block_lt_of_cell? w _ hw624_0)).trans hw624_0), ((HB.out.cell (World.block_lt_of_cell? w _ hw624_1)).trans hw624_1)⟩ (fun hHeld => ?_); clear hK K; refine norm_ (a' := ?_) ?_ ?_; rotate_left
     ·show Act.put _ (some 22) _ = _
      simp only [Act.put, List.setIfInBounds_toArray, List.set_cons_zero, List.set_cons_succ, i64_w, i32_w]; rfl
     refine pure_ (i := 8) (N := some 8) (v := ?_) (a' := ?_) (bitsL 9 511) rfl rfl (any_of HT_.out (by kernel_rfl)) (fun _ _ _ h => h) (Or.inl ⟨by rfl, ?_⟩) ?_ ?_; rotate_left
     ·intro w'; go_simp; with_reducible rfl
     rotate_left
     ·simp only [Act.put, List.setIfInBounds_toArray, List.set_cons_zero, List.set_cons_succ, i64_w, i32_w]; rfl
     refine done_ (done_of HT_.out (by kernel_rfl)) ?_
     go_upto_region 7 with (fail)
     go_cut [27] (fun v27 wc => ∃ (kq : Nat) (x27_6 : Bool), v27 = .bool x27_6 ∧ Aside0 (bulletinref15_Put.j1 kq l0 x5_1 x6_1 x7_1 t625 x27_6 a1_0 a1_1 = some r) ∧ Aside0 (kq ≤ k1) ∧ Aside0 (Kd.R k67 67 wc w.heap.size (fun k_ => k_ ≠ gb620) u5 x5_1) ∧ Aside0 (wc.heap[gb620]? = some (.cells #[.string a1_0, .string a1_1] 67 (0, 0))) ∧ Aside0 (Below w.heap.size w wc))
     case first =>
      have H := HC7.out; clear HC7
      by_cases c10 : t625 = true
      ·subst c10; have H1 : (bulletinref15_Put.j1 k1 l0 x5_1 x6_1 x7_1 true (!x6_1) a1_0 a1_1) = some r := by rw [if_pos rfl] at H; exact H
       clear H; have H := H1; clear H1; have H' := Aside0.mk H; clear H
       go_wp2
       go_meet
       case rel => exact ⟨_, (!x6_1), cl, H', ⟨by have := HK1.out; first | omega | exact Nat.le_refl _⟩, ⟨by (with_reducible repeat (first | apply Kd.R_alloc | apply Kd.R_drewN | apply Kd.R_drew)); exact HO_5.out⟩, ⟨bk⟩, ⟨bwS⟩⟩
      ·replace c10 := Bool.eq_false_iff.mpr c10; subst c10; have H1 : (bulletinref15_Put.j1 k1 l0 x5_1 x6_1 x7_1 false false a1_0 a1_1) = some r := by rw [if_neg (show ¬ (false = true) by decide)] at H; exact H
       clear H; have H := H1; clear H1; have H' := Aside0.mk H; clear H
       go_wp2
       go_meet
       case rel => exact ⟨_, (false), cl, H', ⟨by have := HK1.out; first | omega | exact Nat.le_refl _⟩, ⟨by (with_reducible repeat (first | apply Kd.R_alloc | apply Kd.R_drewN | apply Kd.R_drew)); exact HO_5.out⟩, ⟨bk⟩, ⟨bwS⟩⟩
     case rest =>
      clear HC7
      try clear c1
      try clear p2
      try clear c3
      try clear c4
      try clear c4b0
      try clear c5
      try clear c5b0
      try clear p6
      try clear q6
      try clear hx6
      try clear c10
      try clear hx624_0
      try clear hx624_1
      try clear p2
      try clear p624
      try clear q624
      obtain ⟨kq, x27_6, rfl, HA, HJ6, HO_5, BK620, HB⟩ := hcut; cases kq with
      | zero => exact absurd HA.out (by simp [bulletinref15_Put.j1])
      | succ kj6 =>
       have H := HA.out; clear HA; simp only [bulletinref15_Put.j1] at H
       by_cases c11 : x27_6 = true
       ·subst c11; have H1 : (if x5_1.length < 4398046511104 then ((some (x5_1 ++ [(⟨a1_0, a1_1⟩ : S67)] : List (S67))).bind fun y626 => (if t625 = true then (bulletinref15_Put.l0 kj6 l0 y626 true (wrap64 (x7_1 + 1)) a1_0 a1_1) else (if 0 ≤ x7_1 then (if x7_1 < (l0.length : Int) then (if y626.length < 4398046511104 then (bulletinref15_Put.l0 kj6 l0 (y626 ++ [(⟨(rd_T67 l0 x7_1).f0, (rd_T67 l0 x7_1).f1⟩ : S67)]) true (wrap64 (x7_1 + 1)) a1_0 a1_1) else (none)) else (none)) else (none)))) else (none)) = some r := by rw [if_pos rfl] at H; exact H
        clear H; have H := H1; clear H1
        by_cases c12 : x5_1.length < 4398046511104
        ·rw [if_pos c12] at H; have LMc12 := Aside0.mk c12; clear c12; obtain ⟨y626, hy626⟩ : ∃ y_ : List (S67), y_ = (x5_1 ++ [(⟨a1_0, a1_1⟩ : S67)]) := ⟨_, rfl⟩
         replace H : (if t625 = true then (bulletinref15_Put.l0 kj6 l0 y626 true (wrap64 (x7_1 + 1)) a1_0 a1_1) else (if 0 ≤ x7_1 then (if x7_1 < (l0.length : Int) then (if y626.length < 4398046511104 then (bulletinref15_Put.l0 kj6 l0 (y626 ++ [(⟨(rd_T67 l0 x7_1).f0, (rd_T67 l0 x7_1).f1⟩ : S67)]) true (wrap64 (x7_1 + 1)) a1_0 a1_1) else (none)) else (none)) else (none))) = some r := by first | (rw [hy626]; with_reducible exact H) | (have H2_ := (Option.bind_some _ _).symm.trans H; rw [hy626]; with_reducible exact H2_) | (have H2_ := (Option.bind_some _ _).symm.trans H; with_reducible exact H2_) | with_reducible exact H | (rw [hy626]; exact H) | exact H
         have Ny626 := Aside0.mk hy626; clear hy626
         by_cases c13 : t625 = true
         ·subst c13; have H1 : (bulletinref15_Put.l0 kj6 l0 y626 true (wrap64 (x7_1 + 1)) a1_0 a1_1) = some r := by rw [if_pos rfl] at H; exact H
          clear H; have H := H1; clear H1; have H' := Aside0.mk H; clear H; have hcz14_0 : wc.cell? ⟨gb620, 0, none⟩ = some (.string a1_0) := (blk_cell BK620.out 0).trans rfl; have hcz14_1 : wc.cell? ⟨gb620, 1, none⟩ = some (.string a1_1) := (blk_cell BK620.out 1).trans rfl; have hfz14_0 := blk_frozen BK620.out 0; have hfz14_1 := blk_frozen BK620.out 1
          go_wp2_with (first | ((with_reducible refine gate_builtin (b := .append) (xs := #[.tmp 28, .tmp 30]) rfl ?_); at_builtin; refine Kd.R_append k67 (w0 := w) w.heap.size rfl (.tmp 28) (.tmp 30) 29 67 (.agg #[(.string ⟨#[]⟩), (.string ⟨#[]⟩)]) 32 rfl Tryz.underlying29 info67 rfl (by decide) (by omega) u5 x5_1 (⟨a1_0, a1_1⟩ : S67) [.string a1_0, .string a1_1] (fun k_ => k_ ≠ gb620) (fun _ => False) rfl rfl ?aP (fun _ hk => hk.elim) ?aF ?aO ?aB ?aS ?aL ?_; (case aP => exact k67_mkM _ _ _ (⟨a1_0, a1_1⟩ : S67)); (case aB => exact bwS); (case aF => exact (fun k_ hk => Kd.freshB (g := gb620) (o := .cells #[.string a1_0, .string a1_1] 67 (0, 0)) bk k_ hk)); (case aO => exact (ra HO_5.out)); (case aS => exact (below_size bwS)); (case aL => have := LMc12.out; omega); intro v627 w15 ho hb hg hat; rw [← Ny626.out] at ho; have n0_ := Aside0.mk (blk_grown (g := gb620) (o := .cells #[.string a1_0, .string a1_1] 67 (0, 0)) bk hg (Kd.R_away HO_5.out (fun _ hk => hk))); have n1_ := Aside0.mk (hb); have n2_ := Aside0.mk (ho); clear BK620; clear HB; clear HO_5; have BK620 := n0_; have HB := n1_; have HO628 := n2_; clear n0_ n1_ n2_; clear ho hb hg hat))
          go_roundg kj6
          case measure => have := HK1.out; have := HJ6.out; omega
          case rel => exact ⟨(y626), (true), (wrap64 (x7_1 + 1)), cl, cl, H', ⟨by have := HK1.out; have := HJ6.out; omega⟩, ⟨by (with_reducible repeat (first | apply Kd.R_alloc | apply Kd.R_drewN | apply Kd.R_drew)); exact HO628.out⟩, ⟨bk⟩, ⟨bwS⟩⟩
         ·replace c13 := Bool.eq_false_iff.mpr c13; subst c13; have H1 : (if 0 ≤ x7_1 then (if x7_1 < (l0.length : Int) then (if y626.length < 4398046511104 then (bulletinref15_Put.l0 kj6 l0 (y626 ++ [(⟨(rd_T67 l0 x7_1).f0, (rd_T67 l0 x7_1).f1⟩ : S67)]) true (wrap64 (x7_1 + 1)) a1_0 a1_1) else (none)) else (none)) else (none)) = some r := by rw [if_neg (show ¬ (false = true) by decide)] at H; exact H
          clear H; have H := H1; clear H1
          by_cases c16 : 0 ≤ x7_1
          ·rw [if_pos c16] at H; have c16b0 : decide (0 ≤ x7_1) = true := decide_eq_true c16; clear c16
           by_cases c17 : x7_1 < (l0.length : Int)
           ·rw [if_pos c17] at H; have c17b0 : decide (x7_1 < (l0.length : Int)) = true := decide_eq_true c17; clear c17
            by_cases c18 : y626.length < 4398046511104
            ·rw [if_pos c18] at H; have LMc18 := Aside0.mk c18; clear c18; obtain ⟨y630, hy630⟩ : ∃ y_ : List (S67), y_ = (y626 ++ [(⟨(rd_T67 l0 x7_1).f0, (rd_T67 l0 x7_1).f1⟩ : S67)]) := ⟨_, rfl⟩
             replace H : (bulletinref15_Put.l0 kj6 l0 y630 true (wrap64 (x7_1 + 1)) a1_0 a1_1) = some r := by first | (rw [hy630]; with_reducible exact H) | (have H2_ := (Option.bind_some _ _).symm.trans H; rw [hy630]; with_reducible exact H2_) | (have H2_ := (Option.bind_some _ _).symm.trans H; with_reducible exact H2_) | with_reducible exact H | (rw [hy630]; exact H) | exact H
             have Ny630 := Aside0.mk hy630; clear hy630; have H' := Aside0.mk H; clear H; have hcz19_0 : wc.cell? ⟨gb620, 0, none⟩ = some (.string a1_0) := (blk_cell BK620.out 0).trans rfl; have hcz19_1 : wc.cell? ⟨gb620, 1, none⟩ = some (.string a1_1) := (blk_cell BK620.out 1).trans rfl; have hfz19_0 := blk_frozen BK620.out 0; have hfz19_1 := blk_frozen BK620.out 1
             go_wp2_with (first | ((with_reducible refine gate_builtin (b := .append) (xs := #[.tmp 28, .tmp 30]) rfl ?_); at_builtin; refine Kd.R_append k67 (w0 := w) w.heap.size rfl (.tmp 28) (.tmp 30) 29 67 (.agg #[(.string ⟨#[]⟩), (.string ⟨#[]⟩)]) 32 rfl Tryz.underlying29 info67 rfl (by decide) (by omega) u5 x5_1 (⟨a1_0, a1_1⟩ : S67) [.string a1_0, .string a1_1] (fun k_ => k_ ≠ gb620) (fun _ => False) rfl rfl ?aP (fun _ hk => hk.elim) ?aF ?aO ?aB ?aS ?aL ?_; (case aP => exact k67_mkM _ _ _ (⟨a1_0, a1_1⟩ : S67)); (case aB => exact bwS); (case aF => exact (fun k_ hk => Kd.freshB (g := gb620) (o := .cells #[.string a1_0, .string a1_1] 67 (0, 0)) bk k_ hk)); (case aO => exact (ra HO_5.out)); (case aS => exact (below_size bwS)); (case aL => have := LMc12.out; omega); intro v627 w20 ho hb hg hat; rw [← Ny626.out] at ho; have n0_ := Aside0.mk (blk_grown (g := gb620) (o := .cells #[.string a1_0, .string a1_1] 67 (0, 0)) bk hg (Kd.R_away HO_5.out (fun _ hk => hk))); have n1_ := Aside0.mk (hb); have n2_ := Aside0.mk (ho); clear BK620; clear HB; clear HO_5; have BK620 := n0_; have HB := n1_; have HO628 := n2_; clear n0_ n1_ n2_; clear ho hb hg hat; have p629 : 0 ≤ (x7_1 : Int) := od; have q629 : x7_1 < (l0.length : Int) := od; obtain ⟨ad629, e629, hx629_0, hx629_1⟩ := at_T67 HR0.out x7_1 p629 q629; obtain rfl : ad624 = ad629 := (by injection e629); replace hx629_0 := (HB.out.cell (World.block_lt_of_cell? w _ hx629_0)).trans hx629_0; replace hx629_1 := (HB.out.cell (World.block_lt_of_cell? w _ hx629_1)).trans hx629_1; replace p629 := eq_true p629; replace q629 := eq_true q629) | ((with_reducible refine gate_builtin (b := .append) (xs := #[.tmp 34, .tmp 39]) rfl ?_); at_builtin; refine Kd.R_append k67 (w0 := w) w.heap.size rfl (.tmp 34) (.tmp 39) 29 67 (.agg #[(.string ⟨#[]⟩), (.string ⟨#[]⟩)]) 32 rfl Tryz.underlying29 info67 rfl (by decide) (by omega) v627 y626 (⟨(rd_T67 l0 x7_1).f0, (rd_T67 l0 x7_1).f1⟩ : S67) [.string ((rd_T67 l0 x7_1).f0), .string ((rd_T67 l0 x7_1).f1)] (fun k_ => k_ ≠ gb620) (fun _ => False) rfl rfl ?aP (fun _ hk => hk.elim) ?aF ?aO ?aB ?aS ?aL ?_; (case aP => exact k67_mkM _ _ _ (⟨(rd_T67 l0 x7_1).f0, (rd_T67 l0 x7_1).f1⟩ : S67)); (case aB => exact bwS); (case aF => exact (fun k_ hk => Kd.freshB (g := gb620) (o := .cells #[.string a1_0, .string a1_1] 67 (0, 0)) bk k_ hk)); (case aO => exact (ra HO628.out)); (case aS => exact (below_size bwS)); (case aL => have := LMc18.out; omega); intro v631 w21 ho hb hg hat; rw [← Ny630.out] at ho; have n0_ := Aside0.mk (blk_grown (g := gb620) (o := .cells #[.string a1_0, .string a1_1] 67 (0, 0)) bk hg (Kd.R_away HO628.out (fun _ hk => hk))); have n1_ := Aside0.mk (hb); have n2_ := Aside0.mk (ho); clear BK620; clear HB; clear HO628; have BK620 := n0_; have HB := n1_; have HO632 := n2_; clear n0_ n1_ n2_; clear ho hb hg hat))
             go_roundg kj6
             case measure => have := HK1.out; have := HJ6.out; omega
             case rel => exact ⟨(y630), (true), (wrap64 (x7_1 + 1)), cl, cl, H', ⟨by have := HK1.out; have := HJ6.out; omega⟩, ⟨by (with_reducible repeat (first | apply Kd.R_alloc | apply Kd.R_drewN | apply Kd.R_drew)); exact HO632.out⟩, ⟨bk⟩, ⟨bwS⟩⟩
            ·rw [if_neg c18] at H; exact absurd H (by simp)
           ·rw [if_neg c17] at H; exact absurd H (by simp)
          ·rw [if_neg c16] at H; exact absurd H (by simp)
        ·rw [if_neg c12] at H; exact absurd H (by simp)
       ·replace c11 := Bool.eq_false_iff.mpr c11; subst c11; have H1 : (if t625 = true then (bulletinref15_Put.l0 kj6 l0 x5_1 x6_1 (wrap64 (x7_1 + 1)) a1_0 a1_1) else (if 0 ≤ x7_1 then (if x7_1 < (l0.length : Int) then (if x5_1.length < 4398046511104 then (bulletinref15_Put.l0 kj6 l0 (x5_1 ++ [(⟨(rd_T67 l0 x7_1).f0, (rd_T67 l0 x7_1).f1⟩ : S67)]) x6_1 (wrap64 (x7_1 + 1)) a1_0 a1_1) else (none)) else (none)) else (none))) = some r := by rw [if_neg (show ¬ (false = true) by decide)] at H; exact H
        clear H; have H := H1; clear H1
        by_cases c22 : t625 = true
        ·subst c22; have H1 : (bulletinref15_Put.l0 kj6 l0 x5_1 x6_1 (wrap64 (x7_1 + 1)) a1_0 a1_1) = some r := by rw [if_pos rfl] at H; exact H
         clear H; have H := H1; clear H1; have H' := Aside0.mk H; clear H
         go_wp2
         go_roundg kj6
         case measure => have := HK1.out; have := HJ6.out; omega
         case rel => exact ⟨(x5_1), (x6_1), (wrap64 (x7_1 + 1)), cl, cl, H', ⟨by have := HK1.out; have := HJ6.out; omega⟩, ⟨by (with_reducible repeat (first | apply Kd.R_alloc | apply Kd.R_drewN | apply Kd.R_drew)); exact HO_5.out⟩, ⟨bk⟩, ⟨bwS⟩⟩
        ·replace c22 := Bool.eq_false_iff.mpr c22; subst c22; have H1 : (if 0 ≤ x7_1 then (if x7_1 < (l0.length : Int) then (if x5_1.length < 4398046511104 then (bulletinref15_Put.l0 kj6 l0 (x5_1 ++ [(⟨(rd_T67 l0 x7_1).f0, (rd_T67 l0 x7_1).f1⟩ : S67)]) x6_1 (wrap64 (x7_1 + 1)) a1_0 a1_1) else (none)) else (none)) else (none)) = some r := by rw [if_neg (show ¬ (false = true) by decide)] at H; exact H
         clear H; have H := H1; clear H1
         by_cases c23 : 0 ≤ x7_1
         ·rw [if_pos c23] at H; have c23b0 : decide (0 ≤ x7_1) = true := decide_eq_true c23; clear c23
          by_cases c24 : x7_1 < (l0.length : Int)
          ·rw [if_pos c24] at H; have c24b0 : decide (x7_1 < (l0.length : Int)) = true := decide_eq_true c24; clear c24
           by_cases c25 : x5_1.length < 4398046511104
           ·rw [if_pos c25] at H; have LMc25 := Aside0.mk c25; clear c25; obtain ⟨y634, hy634⟩ : ∃ y_ : List (S67), y_ = (x5_1 ++ [(⟨(rd_T67 l0 x7_1).f0, (rd_T67 l0 x7_1).f1⟩ : S67)]) := ⟨_, rfl⟩
            replace H : (bulletinref15_Put.l0 kj6 l0 y634 x6_1 (wrap64 (x7_1 + 1)) a1_0 a1_1) = some r := by first | (rw [hy634]; with_reducible exact H) | (have H2_ := (Option.bind_some _ _).symm.trans H; rw [hy634]; with_reducible exact H2_) | (have H2_ := (Option.bind_some _ _).symm.trans H; with_reducible exact H2_) | with_reducible exact H | (rw [hy634]; exact H) | exact H
            have Ny634 := Aside0.mk hy634; clear hy634; have H' := Aside0.mk H; clear H; have p633 : 0 ≤ (x7_1 : Int) := od; have q633 : x7_1 < (l0.length : Int) := od; obtain ⟨ad633, e633, hx633_0, hx633_1⟩ := at_T67 HR0.out x7_1 p633 q633; obtain rfl : ad624 = ad633 := (by injection e633)
            replace hx633_0 := (HB.out.cell (World.block_lt_of_cell? w _ hx633_0)).trans hx633_0; replace hx633_1 := (HB.out.cell (World.block_lt_of_cell? w _ hx633_1)).trans hx633_1; replace p633 := eq_true p633; replace q633 := eq_true q633
            go_wp2_with (first | ((with_reducible refine gate_builtin (b := .append) (xs := #[.tmp 34, .tmp 39]) rfl ?_); at_builtin; refine Kd.R_append k67 (w0 := w) w.heap.size rfl (.tmp 34) (.tmp 39) 29 67 (.agg #[(.string ⟨#[]⟩), (.string ⟨#[]⟩)]) 32 rfl Tryz.underlying29 info67 rfl (by decide) (by omega) u5 x5_1 (⟨(rd_T67 l0 x7_1).f0, (rd_T67 l0 x7_1).f1⟩ : S67) [.string ((rd_T67 l0 x7_1).f0), .string ((rd_T67 l0 x7_1).f1)] (fun k_ => k_ ≠ gb620) (fun _ => False) rfl rfl ?aP (fun _ hk => hk.elim) ?aF ?aO ?aB ?aS ?aL ?_; (case aP => exact k67_mkM _ _ _ (⟨(rd_T67 l0 x7_1).f0, (rd_T67 l0 x7_1).f1⟩ : S67)); (case aB => exact bwS); (case aF => exact (fun k_ hk => Kd.freshB (g := gb620) (o := .cells #[.string a1_0, .string a1_1] 67 (0, 0)) bk k_ hk)); (case aO => exact (ra HO_5.out)); (case aS => exact (below_size bwS)); (case aL => have := LMc25.out; omega); intro v635 w26 ho hb hg hat; rw [← Ny634.out] at ho; have n0_ := Aside0.mk (blk_grown (g := gb620) (o := .cells #[.string a1_0, .string a1_1] 67 (0, 0)) bk hg (Kd.R_away HO_5.out (fun _ hk => hk))); have n1_ := Aside0.mk (hb); have n2_ := Aside0.mk (ho); clear BK620; clear HB; clear HO_5; have BK620 := n0_; have HB := n1_; have HO636 := n2_; clear n0_ n1_ n2_; clear ho hb hg hat))
            go_roundg kj6
            case measure => have := HK1.out; have := HJ6.out; omega
            case rel => exact ⟨(y634), (x6_1), (wrap64 (x7_1 + 1)), cl, cl, H', ⟨by have := HK1.out; have := HJ6.out; omega⟩, ⟨by (with_reducible repeat (first | apply Kd.R_alloc | apply Kd.R_drewN | apply Kd.R_drew)); exact HO636.out⟩, ⟨bk⟩, ⟨bwS⟩⟩
           ·rw [if_neg c25] at H; exact absurd H (by simp)
          ·rw [if_neg c24] at H; exact absurd H (by simp)
         ·rw [if_neg c23] at H; exact absurd H (by simp)
    ·rw [if_neg c5] at H; exact absurd H (by simp)
   ·rw [if_neg c4] at H; have c4b0 : decide (x7_1 < (l0.length : Int)) = false := decide_eq_false c4; clear c4
    by_cases c27 : x6_1 = true
    ·subst c27; have H1 : (some x5_1) = some r := by rw [if_pos rfl] at H; exact H
     clear H; have H := H1; clear H1; obtain rfl := Option.some.inj H
     go_wp2
     go_ret
     exact ⟨_, ew, by (with_reducible repeat (first | apply Kd.R_alloc | apply Kd.R_drewN | apply Kd.R_drew)); exact Kd.R_mono HO_5.out (fun _ hk => trivial), bwS⟩
    ·replace c27 := Bool.eq_false_iff.mpr c27; subst c27; have H1 : (if x5_1.length < 4398046511104 then (some (x5_1 ++ [(⟨a1_0, a1_1⟩ : S67)])) else (none)) = some r := by rw [if_neg (show ¬ (false = true) by decide)] at H; exact H
     clear H; have H := H1; clear H1
     by_cases c28 : x5_1.length < 4398046511104
     ·rw [if_pos c28] at H; have LMc28 := Aside0.mk c28; clear c28; obtain ⟨y621, hy621⟩ : ∃ y_ : List (S67), y_ = (x5_1 ++ [(⟨a1_0, a1_1⟩ : S67)]) := ⟨_, rfl⟩
      replace H : (some y621) = some r := by first | (rw [hy621]; with_reducible exact H) | (have H2_ := (Option.bind_some _ _).symm.trans H; rw [hy621]; with_reducible exact H2_) | (have H2_ := (Option.bind_some _ _).symm.trans H; with_reducible exact H2_) | with_reducible exact H | (rw [hy621]; exact H) | exact H
      have Ny621 := Aside0.mk hy621; clear hy621; obtain rfl := Option.some.inj H; have hcz29_0 : wr.cell? ⟨gb620, 0, none⟩ = some (.string a1_0) := (blk_cell BK620.out 0).trans rfl; have hcz29_1 : wr.cell? ⟨gb620, 1, none⟩ = some (.string a1_1) := (blk_cell BK620.out 1).trans rfl; have hfz29_0 := blk_frozen BK620.out 0; have hfz29_1 := blk_frozen BK620.out 1
      go_wp2_with (first | ((with_reducible refine gate_builtin (b := .append) (xs := #[.tmp 43, .tmp 45]) rfl ?_); at_builtin; refine Kd.R_append k67 (w0 := w) w.heap.size rfl (.tmp 43) (.tmp 45) 29 67 (.agg #[(.string ⟨#[]⟩), (.string ⟨#[]⟩)]) 32 rfl Tryz.underlying29 info67 rfl (by decide) (by omega) u5 x5_1 (⟨a1_0, a1_1⟩ : S67) [.string a1_0, .string a1_1] (fun k_ => k_ ≠ gb620) (fun _ => False) rfl rfl ?aP (fun _ hk => hk.elim) ?aF ?aO ?aB ?aS ?aL ?_; (case aP => exact k67_mkM _ _ _ (⟨a1_0, a1_1⟩ : S67)); (case aB => exact bwS); (case aF => exact (fun k_ hk => Kd.freshB (g := gb620) (o := .cells #[.string a1_0, .string a1_1] 67 (0, 0)) bk k_ hk)); (case aO => exact (ra HO_5.out)); (case aS => exact (below_size bwS)); (case aL => have := LMc28.out; omega); intro v622 w30 ho hb hg hat; rw [← Ny621.out] at ho; have n0_ := Aside0.mk (blk_grown (g := gb620) (o := .cells #[.string a1_0, .string a1_1] 67 (0, 0)) bk hg (Kd.R_away HO_5.out (fun _ hk => hk))); have n1_ := Aside0.mk (hb); have n2_ := Aside0.mk (ho); clear BK620; clear HB; clear HO_5; have BK620 := n0_; have HB := n1_; have HO623 := n2_; clear n0_ n1_ n2_; clear ho hb hg hat))
      go_ret
      exact ⟨_, ew, by (with_reducible repeat (first | apply Kd.R_alloc | apply Kd.R_drewN | apply Kd.R_drew)); exact Kd.R_mono HO623.out (fun _ hk => trivial), bwS⟩
     ·rw [if_neg c28] at H; exact absurd H (by simp)

end Go.Proofs.YtbjbpgmjijeppaaGreatDoor.Fn
set_option linter.unusedVariables false
set_option linter.unusedSimpArgs false
namespace Go.Proofs.YtbjbpgmjijeppaaGreatDoor.Pl
open Go.Proofs.YtbjbpgmjijeppaaGreatDoorW.PrintWords
variable {α : Type}
/-! Layer 15: are two names the same? -/
def sameN (a b : ByteArray) : Bool := (str (fold (bs a))).toList == (str (fold (bs b))).toList
def firstI (p : α → Bool) : List α → Nat
 | [] => 0
 | x :: l => if p x = true then 0 else firstI p l + 1
theorem firstI_at (p : α → Bool) : ∀ (l : List α) (i : Nat) (h : i < l.length), (∀ j (hj : j < i), p (l[j]'(Nat.lt_trans hj h)) = false) → (p l[i] = true → firstI p l = i) ∧ (p l[i] = false → i < firstI p l)
 | x :: l, 0, h, ha => by
  refine ⟨fun hp => ?_, fun hp => ?_⟩
  ·rw [firstI, if_pos (show p x = true from hp)]
  ·rw [firstI, if_neg (by rw [show p x = false from hp]; decide)]
   omega
 | x :: l, i + 1, h, ha => by
  have h0 : p x = false := ha 0 (by omega)
  have ih := firstI_at p l i (by simpa using h) (fun j hj => ha (j + 1) (by omega))
  rw [firstI, if_neg (by rw [h0]; decide)]
  exact ⟨fun hp => by rw [ih.1 hp], fun hp => by have := ih.2 hp; omega⟩
theorem firstI_none (p : α → Bool) : ∀ l : List α, (∀ x ∈ l, p x = false) → firstI p l = l.length
 | [], _ => rfl
 | x :: l, h => by
  rw [firstI, if_neg (by rw [h x (by simp)]; decide), firstI_none p l (fun y hy => h y (by simp [hy])), List.length_cons]
def idxL (p : α → Bool) (l : List α) : Int := if firstI p l < l.length then (firstI p l : Int) else -1
end Go.Proofs.YtbjbpgmjijeppaaGreatDoor.Pl
namespace Go.Proofs.YtbjbpgmjijeppaaGreatDoor.Fn
open Go.RowKit Go.Proofs.YtbjbpgmjijeppaaGreatDoorW.PrintWords

theorem headsame_is (a b : ByteArray) (ha : a.size ≤ 35184372088832) (hb : b.size ≤ 35184372088832) : head_same.f a b = some (Pl.sameN a b) := by
 unfold head_same.f glyph_Fold.f Pl.sameN
 rw [if_pos ha, if_pos hb]
 rfl
def Asks (f : Nat) : Prop := ∀ (b : Nat) (name : ByteArray) (x0 x1 : ByteArray) (w : World), name.size ≤ 35184372088832 → x0.size ≤ 35184372088832 → w.cell? ⟨b, 0, none⟩ = some (.string name) →
 Calls Tryz.prog f #[.agg #[.string x0, .string x1], .pointer (some ⟨b, 0, none⟩)] w fun e w' => e = .returned (.bool (Pl.sameN x0 name)) ∧ Below w.heap.size w w'
set_option maxHeartbeats 4000000 in
set_option maxRecDepth 100000 in
theorem asks_put : Asks 86 := by
 intro b name x0 x1 w hn hx hc
 have hs := hid (headsame_is x0 name hx hn)
 have hlt := World.block_lt_of_cell? w _ hc
 have hu := Tryz.underlying46
 go_enter Tryz.func86, Tryz.ntmps86
 go_wp2_with (go_at_call 73; refine (head_same.calls x0 name _ _ hs.out).mono ?_; rintro e W1 ⟨rfl, b1⟩)
 go_ret
 exact ⟨rfl, ((Below.refl w.heap.size w).alloc (Nat.le_refl _) _).trans (b1.mono (by simp))⟩
set_option maxHeartbeats 4000000 in
set_option maxRecDepth 100000 in
theorem asks_without : Asks 115 := by
 intro b name x0 x1 w hn hx hc
 have hs := hid (headsame_is x0 name hx hn)
 have hlt := World.block_lt_of_cell? w _ hc
 have hu := Tryz.underlying46
 go_enter Tryz.func115, Tryz.ntmps115
 go_wp2_with (go_at_call 73; refine (head_same.calls x0 name _ _ hs.out).mono ?_; rintro e W1 ⟨rfl, b1⟩)
 go_ret
 exact ⟨rfl, ((Below.refl w.heap.size w).alloc (Nat.le_refl _) _).trans (b1.mono (by simp))⟩
def askN (name : ByteArray) (x : S46) : Bool := Pl.sameN x.f0 name
set_option maxHeartbeats 4000000 in
set_option maxRecDepth 100000 in
theorem IndexFunc_calls (f : Nat) (hA : Asks f) (ef : ∀ args w, (callFunc f args).run Tryz.prog w = .ok (.enter f args) w) (b : Nat) (name : ByteArray) (A : Option Addr) (c : Nat) (l : List (S46)) (w : World) (hC : Kd.C k46 w A l.length l)
  (hl : l.length ≤ 1000000000) (hz : ∀ x ∈ l, x.f0.size ≤ 35184372088832) (hn : name.size ≤ 35184372088832) (hb : w.cell? ⟨b, 0, none⟩ = some (.string name)) :
  Calls Tryz.prog 85 #[.slice A l.length c, .func (.func f) #[] #[.pointer (some ⟨b, 0, none⟩)]] w fun e w' => e = .returned (.int .i64 (Pl.idxL (askN name) l)) ∧ Below w.heap.size w w' := by
 have HC := hid hC
 have HZ := hid hz
 have HA := hid hA
 clear hC hz hA
 have hbl := World.block_lt_of_cell? w _ hb
 have hu := Tryz.underlying46
 go_enter Tryz.func85, Tryz.ntmps85
 go_wp2
 go_loopw [8] (fun v8 wr => ∃ i : Nat, i ≤ l.length ∧ v8 = .int .i64 i ∧ Hid (∀ j (hj : j < l.length), j < i → askN name l[j] = false) ∧ Below w.heap.size w wr) (fun v8 _ => l.length - (intOf v8).toNat)
 case atStart => exact ⟨0, Nat.zero_le _, rfl, fun j hj h => absurd h (Nat.not_lt_zero _), Below.refl _ w⟩
 case round =>
  obtain ⟨i, hi, rfl, hno, hbw⟩ := hrel
  by_cases hlt : i < l.length
  ·obtain ⟨ad, e0, hx0, hx1⟩ := at_T46 HC.out (i : Int) (by omega) (by omega)
   subst e0
   have hrd : rd_T46 l (i : Int) = l[i]'hlt := by
    unfold rd_T46
    rw [Int.toNat_natCast, List.getD_eq_getElem?_getD, List.getElem?_eq_getElem hlt]; rfl
   rw [hrd] at hx0 hx1
   simp only [Int.toNat_natCast] at hx0 hx1
   replace hx0 := (hbw.cell (World.block_lt_of_cell? w _ hx0)).trans hx0
   replace hx1 := (hbw.cell (World.block_lt_of_cell? w _ hx1)).trans hx1
   have hbr := (hbw.cell (p := ⟨b, 0, none⟩) hbl).trans hb
   have hask : askN name (l[i]'hlt) = Pl.sameN (l[i]'hlt).f0 name := rfl
   have hcall := hid (HA.out b name (l[i]'hlt).f0 (l[i]'hlt).f1 wr hn (HZ.out _ (List.getElem_mem hlt)) hbr)
   have hfi := hid (Pl.firstI_at (askN name) l i hlt (fun j hj => hno.out j (by omega) hj))
   have hq0 : ∃ q, Pl.sameN (l[i]'hlt).f0 name = q := ⟨_, rfl⟩
   obtain ⟨q, hq⟩ := hq0
   rw [hq] at hcall
   have HQ : Hid (askN name (l[i]'hlt) = q) := hask.trans hq
   clear hask hq hrd
   generalize (l[i]'hlt).f0 = y0 at hx0 hcall
   generalize (l[i]'hlt).f1 = y1 at hx1 hcall
   have c1 : ((0 : Int) ≤ (i : Int)) = True := eq_true (by omega)
   have c2 : ((i : Int) < (l.length : Int)) = True := eq_true (by omega)
   have c3 : decide ((i : Int) < (l.length : Int)) = true := decide_eq_true (by omega)
   cases q with
   | true =>
    go_wp2_with (go_at_fn f; refine hcall.out.mono ?_; rintro e W1 ⟨rfl, b1⟩)
    go_ret
    refine ⟨?_, hbw.trans (b1.mono hbw.size)⟩
    unfold Pl.idxL
    rw [hfi.out.1 HQ.out, if_pos hlt]
    rfl
   | false =>
    go_wp2_with (go_at_fn f; refine hcall.out.mono ?_; rintro e W1 ⟨rfl, b1⟩)
    go_roundw
    case rel =>
     refine ⟨i + 1, by omega, by go_num, (show Hid _ from fun j hj hji => ?_), hbw.trans (b1.mono hbw.size)⟩
     by_cases e : j = i
     ·subst e; exact HQ.out
     ·exact hno.out j hj (by omega)
    case measure => simp [intOf]; omega
  ·have c3 : decide ((i : Int) < (l.length : Int)) = false := decide_eq_false (by omega)
   go_wp2
   go_ret
   refine ⟨?_, hbw⟩
   unfold Pl.idxL
   rw [Pl.firstI_none _ _ (fun x hx => by
    obtain ⟨j, hj, rfl⟩ := List.mem_iff_getElem.1 hx
    exact hno.out j hj (by omega)), if_neg (by omega)]
   rfl
end Go.Proofs.YtbjbpgmjijeppaaGreatDoor.Fn
set_option linter.unusedVariables false
set_option linter.unusedSimpArgs false
namespace Go.Proofs.YtbjbpgmjijeppaaGreatDoor.Fn
open Go.RowKit Go.Proofs.YtbjbpgmjijeppaaGreatDoorW.PrintWords

/-! A row of the call's own: cut off, and cleared behind. -/
section
variable {α : Type} {d : Kd α} {e base g n cap : Nat} {ok : Nat → Prop} {W : World} {xs : List α}
theorem reps_take {R : α → List Value → Prop} {size : Nat} {ps : List α} {cs : List Value} (h : Reps R size ps cs) (m : Nat) (hm : m ≤ ps.length) : Reps R size (ps.take m) (cs.take (m * size)) := by
 obtain ⟨h1, h2⟩ := h
 have hle : m * size ≤ ps.length * size := Nat.mul_le_mul_right _ hm
 refine ⟨by rw [List.length_take, List.length_take, h1]; rw [Nat.min_eq_left hle, Nat.min_eq_left hm], fun j p hp => ?_⟩
 have hj : j < m := by
  have := (List.getElem?_eq_some_iff.1 hp).1
  rw [List.length_take] at this
  omega
 rw [List.getElem?_take_of_lt hj] at hp
 have := h2 j p hp
 have hjm : j * size + size ≤ m * size := by rw [← Nat.succ_mul]; exact Nat.mul_le_mul_right _ hj
 rw [List.drop_take, List.take_take, Nat.min_eq_left (by omega)]
 exact this
theorem R_cut (h : d.R e W base ok (.slice (some ⟨g, 0, none⟩) n cap) xs) (m : Nat) (hm : m ≤ n) : d.R e W base ok (.slice (some ⟨g, 0, none⟩) m cap) (xs.take m) := by
 obtain ⟨h0, inner, ⟨ho1, ho2⟩, hr⟩ := h
 rcases ho2 with ⟨hv, _⟩ | ⟨g', cap', cur, hv, hb, hh, hnc, hcm, hcs, ht⟩
 ·cases hv
 injection hv with ha hn hc
 injection ha with ha
 injection ha with hg
 subst hg; subst hc
 have hmx : m ≤ xs.length := by omega
 have hlen : (xs.take m).length = m := by rw [List.length_take]; omega
 have hle : m * d.sz ≤ xs.length * d.sz := Nat.mul_le_mul_right _ hmx
 refine ⟨h0, inner.take (m * d.sz), ⟨by rw [List.length_take, ho1, hlen]; omega, .inr ⟨g, cap, cur, by rw [hlen], hb, hh, by rw [hlen]; omega, hcm, hcs, ?_⟩⟩, ?_⟩
 ·rw [hlen, ← ht, List.take_take, Nat.min_eq_left hle]
 ·exact (reps_take hr m hmx).imp_ (fun p c hp => d.M_mono (fun k hk => hk) hp)
theorem R_beyond (h : d.R e W base ok (.slice (some ⟨g, 0, none⟩) n cap) xs) (vs : List Value) (o : Nat) (ho : n * d.sz ≤ o) (hfit : o + vs.length ≤ cap * d.sz) : d.R e (W.setCells g o vs) base ok (.slice (some ⟨g, 0, none⟩) n cap) xs := by
 obtain ⟨h0, inner, ⟨ho1, ho2⟩, hr⟩ := h
 rcases ho2 with ⟨hv, _⟩ | ⟨g', cap', cur, hv, hb, hh, hnc, hcm, hcs, ht⟩
 ·cases hv
 injection hv with ha hn hc
 injection ha with ha
 injection ha with hg
 subst hg; subst hc
 obtain ⟨cur', h3, h4, h5⟩ := setCells_row vs o W cur hh (by omega)
 refine ⟨h0, inner, ⟨ho1, .inr ⟨g, cap, cur', by rw [← hn], hb, h3, hnc, hcm, by rw [h4]; exact hcs, ?_⟩⟩, hr.imp_ (fun p c hp => d.M_move (fun k hk => setCells_far vs _ k (fun e => hk.2 (by rw [e]; simp [Value.ownBlock]))) hp)⟩
 rw [← ht]
 apply List.ext_getElem?
 intro q
 rw [List.getElem?_take, List.getElem?_take]
 split
 ·rename_i hq
  rw [h5, List.append_assoc, List.getElem?_append_left (by
   rw [List.length_take, Array.length_toList]
   have hle : xs.length * d.sz ≤ cap * d.sz := Nat.mul_le_mul_right _ hnc
   rw [hn] at ho
   omega), List.getElem?_take_of_lt (by rw [hn] at ho; omega)]
 ·rfl
end
def fzero : Value := .agg #[.string (⟨#[]⟩ : ByteArray), .string (⟨#[]⟩ : ByteArray)]
theorem zero_field (w : World) : (zeroValue 46).run Tryz.prog w = .ok fzero w := by kernel_rfl
theorem run_clear_fields (w : World) (b o n : Nat) (hn : 0 < n)
  (hc : ∀ j, j < n * 2 → (w.cell? ⟨b, o + j, none⟩).isSome = true) (hf : ∀ j, j < n * 2 → w.frozen? ⟨b, o + j, none⟩ = false) :
  ∃ vs : List Value, vs.length = n * 2 ∧ ∀ (ty : TypeId) (c : Nat), (Builtin.clear_ #[23] ty #[.slice (some ⟨b, o, none⟩) n c]).run Tryz.prog w = .ok (.tuple #[]) (w.setCells b o vs) := by
 refine ⟨(Builtin.zeroCells fzero.cells n).toList, ?_, ?_⟩
 ·simp [Builtin.zeroCells, fzero, Value.cells]
 ·have hl : (Builtin.zeroCells fzero.cells n).toList.length = n * 2 := by
   simp [Builtin.zeroCells, fzero, Value.cells]
  have hst := Go.run_storeCells_cells (P := Tryz.prog) b o (Builtin.zeroCells fzero.cells n).toList 0 w (by intro j hj; rw [hl] at hj; simpa using hc j hj) (by intro j hj; rw [hl] at hj; first | exact hf j hj | (simp; done) | simpa using hf j hj) (by
   intro v hv
   simp only [Builtin.zeroCells, fzero, Value.cells, Array.toList_map, List.mem_map] at hv
   obtain ⟨i, _, rfl⟩ := hv
   have h2 : i % #[Value.string (⟨#[]⟩ : ByteArray), Value.string (⟨#[]⟩ : ByteArray)].size = 0 ∨ i % #[Value.string (⟨#[]⟩ : ByteArray), Value.string (⟨#[]⟩ : ByteArray)].size = 1 := by
    have : #[Value.string (⟨#[]⟩ : ByteArray), Value.string (⟨#[]⟩ : ByteArray)].size = 2 := rfl
    rw [this]
    omega
   rcases h2 with h2 | h2 <;> rw [h2] <;> rfl)
  simp only [Nat.add_zero] at hst
  obtain ⟨m, rfl⟩ : ∃ m, n = m + 1 := ⟨n - 1, by omega⟩
  have hst2 := hst
  unfold fzero at hst2
  intro ty c
  simp [Builtin.clear_, run_underlying Tryz.underlying23, zero_field, hst, hst2, fzero]
theorem firstI_kept {α : Type} (p : α → Bool) : ∀ l : List α, Pl.firstI p l < l.length → (l.take (Pl.firstI p l + 1)).filter (fun x => !p x) = l.take (Pl.firstI p l)
 | [], h => by simp at h
 | x :: l, h => by
  rw [Pl.firstI] at h ⊢
  cases hx : p x with
  | true => simp [hx]
  | false =>
   rw [hx] at h
   simp only [Bool.false_eq_true, if_false, List.length_cons] at h ⊢
   rw [List.take_succ_cons, List.take_succ_cons, List.filter_cons, hx, if_pos (by rfl), firstI_kept p l (by omega)]
theorem firstI_all {α : Type} (p : α → Bool) : ∀ l : List α, ¬ Pl.firstI p l < l.length → l.filter (fun x => !p x) = l
 | [], _ => rfl
 | x :: l, h => by
  rw [Pl.firstI] at h
  cases hx : p x with
  | true => rw [hx] at h; simp at h
  | false =>
   rw [hx] at h
   simp only [Bool.false_eq_true, if_false, List.length_cons] at h
   rw [List.filter_cons, hx, if_pos (by rfl), firstI_all p l (by omega)]
structure Kept2 {α : Type} (p : α → Bool) (l : List α) (i j : Nat) (L : List α) : Prop where
 len : L.length = l.length
 lt : i < j
 le : j ≤ l.length
 low : L.take i = (l.take j).filter (fun x => !p x)
 high : L.drop j = l.drop j
theorem Kept2.at_ {α : Type} {p : α → Bool} {l L : List α} {i j : Nat} (h : Kept2 p l i j L) (hj : j < l.length) (hj2 : j < L.length) : L[j] = l[j] := by
 have := congrArg (·[0]?) h.high
 simp only [List.getElem?_drop, Nat.add_zero] at this
 rw [List.getElem?_eq_getElem hj, List.getElem?_eq_getElem hj2] at this
 exact Option.some.inj this
theorem drop_succ_of {α : Type} {l L : List α} {j : Nat} (h : L.drop j = l.drop j) : L.drop (j + 1) = l.drop (j + 1) := by
 rw [← List.drop_drop, ← List.drop_drop, h]
theorem Kept2.skip {α : Type} {p : α → Bool} {l L : List α} {i j : Nat} (h : Kept2 p l i j L) (hj : j < l.length) (hp : p l[j] = true) : Kept2 p l i (j + 1) L :=
 ⟨h.len, by have := h.lt; omega, hj, by rw [List.take_succ_eq_append_getElem hj, List.filter_append, h.low]; simp [hp], drop_succ_of h.high⟩
theorem Kept2.keep {α : Type} {p : α → Bool} {l L : List α} {i j : Nat} (h : Kept2 p l i j L) (hj : j < l.length) (hp : p l[j] = false) : Kept2 p l (i + 1) (j + 1) (L.set i l[j]) := by
 have hlt := h.lt
 have hlen := h.len
 have hi : i < (L.set i l[j]).length := by rw [List.length_set]; omega
 refine ⟨by rw [List.length_set]; exact hlen, by omega, hj, ?_, ?_⟩
 ·rw [List.take_succ_eq_append_getElem hi, List.take_succ_eq_append_getElem hj, List.filter_append, ← h.low, List.getElem_set_self, List.take_set_of_le (Nat.le_refl _)]
  simp [hp]
 ·rw [List.drop_set_of_lt (by omega)]
  exact drop_succ_of h.high
set_option maxHeartbeats 8000000 in
set_option maxRecDepth 100000 in
theorem DeleteFunc_calls (f : Nat) (hA : Asks f) (ef : ∀ args w, (callFunc f args).run Tryz.prog w = .ok (.enter f args) w) (b : Nat) (name : ByteArray) (g cap base : Nat) (l : List (S46)) (w : World)
  (hR : Kd.R k46 46 w base (fun _ => True) (.slice (some ⟨g, 0, none⟩) l.length cap) l)
  (hl : l.length ≤ 1000000000) (hz : ∀ x ∈ l, x.f0.size ≤ 35184372088832) (hn : name.size ≤ 35184372088832) (hb : w.cell? ⟨b, 0, none⟩ = some (.string name)) (hbg : b ≠ g) (hbase : base ≤ w.heap.size) :
  Calls Tryz.prog 114 #[.slice (some ⟨g, 0, none⟩) l.length cap, .func (.func f) #[] #[.pointer (some ⟨b, 0, none⟩)]] w fun e w' =>
   ∃ m, m = (l.filter (fun x => !askN name x)).length ∧ e = .returned (.slice (some ⟨g, 0, none⟩) m cap) ∧ Kd.R k46 46 w' base (fun _ => True) (.slice (some ⟨g, 0, none⟩) m cap) (l.filter (fun x => !askN name x)) ∧ Below base w w' := by
 have hg : base ≤ g := by
  obtain ⟨_, inner, ho, _⟩ := hR
  exact (ho.lt g (by simp [Value.ownBlock])).1
 obtain ⟨-, hlc, hC⟩ := Kd.R_reads' hR
 have hIF := IndexFunc_calls f hA ef b name _ cap l w hC hl hz hn hb
 have HR := hid hR
 have HZ := hid hz
 have HA := hid hA
 clear hR hz hA hC
 have hbl := World.block_lt_of_cell? w _ hb
 have hu := Tryz.underlying46
 by_cases hf : Pl.firstI (askN name) l < l.length
 ·have hidx : Pl.idxL (askN name) l = (Pl.firstI (askN name) l : Int) := by unfold Pl.idxL; rw [if_pos hf]
  rw [hidx] at hIF
  have hk0 := hid (firstI_kept (askN name) l hf)
  generalize Pl.firstI (askN name) l = i0 at hIF hk0 hf
  have hne1 : ((i0 : Int) == -1) = false := beq_eq_false_iff_ne.2 (by omega)
  go_enter Tryz.func114, Tryz.ntmps114
  go_wp2_with (go_at_call 85; refine hIF.mono ?_; rintro e w1 ⟨rfl, b0⟩)
  go_loopw [5, 6] (fun v5 v6 wr => ∃ (i j : Nat) (L : List (S46)), v5 = .int .i64 i ∧ v6 = .int .i64 j ∧ Hid (Kept2 (askN name) l i j L) ∧ Hid (Kd.R k46 46 wr base (fun _ => True) (.slice (some ⟨g, 0, none⟩) l.length cap) L) ∧ wr.cell? ⟨b, 0, none⟩ = some (.string name) ∧ Hid (Below base w wr)) (fun _ v6 _ => l.length - (intOf v6).toNat)
  case atStart => exact ⟨i0, i0 + 1, l, rfl, by go_num, ⟨rfl, by omega, by omega, hk0.out.symm, rfl⟩, Kd.R_below HR.out b0, (b0.cell (p := ⟨b, 0, none⟩) hbl).trans hb, b0.mono hbase⟩
  case round =>
   obtain ⟨i, j, L, rfl, rfl, hK, hRL, hbr, hbw⟩ := hrel
   have hij := hK.out.lt
   have hjl := hK.out.le
   have hLl := hK.out.len
   have hbrl := World.block_lt_of_cell? wr _ hbr
   obtain ⟨-, -, hCL⟩ := Kd.R_reads' hRL.out
   have hadd : ∀ q : Nat, (⟨g, 0, none⟩ : Addr).add q = ⟨g, q, none⟩ := fun q => add_plain g q
   have hfz : ∀ q : Nat, wr.frozen? ⟨g, q, none⟩ = false := by
    obtain ⟨_, inner, ho, _⟩ := hRL.out
    obtain ⟨cells, hc⟩ := own_typed ho g (by simp [Value.ownBlock])
    exact fun q => blk_frozen hc q
   have hcl : ∀ (q : Nat) (hq : q < L.length), wr.cell? ⟨g, q * 2, none⟩ = some (.string L[q].f0) ∧ wr.cell? ⟨g, q * 2 + 1, none⟩ = some (.string L[q].f1) := fun q hq => by
    obtain ⟨ad, e0, h0, h1⟩ := at_T46 hCL (q : Int) (by omega) (by omega)
    have e0 : (⟨g, 0, none⟩ : Addr) = ad := Option.some.inj e0
    have hrd : rd_T46 L (q : Int) = L[q] := by
     unfold rd_T46
     rw [Int.toNat_natCast, List.getD_eq_getElem?_getD, List.getElem?_eq_getElem hq]; rfl
    rw [hrd, ← e0, Int.toNat_natCast, hadd] at h0 h1
    exact ⟨h0, h1⟩
   by_cases hlt : j < l.length
   ·have hjL : j < L.length := by omega
    have hiL : i < L.length := by omega
    have hat := hK.out.at_ hlt hjL
    obtain ⟨hx0, hx1⟩ := hcl j hjL
    obtain ⟨hy0, hy1⟩ := hcl i hiL
    rw [hat] at hx0 hx1
    have hxz := HZ.out _ (List.getElem_mem hlt)
    have hf0 := hfz (i * 2)
    have hf1 := hfz (i * 2 + 1)
    have hgl := World.block_lt_of_cell? wr _ hx0
    have HK1 := hid (fun hp => hK.out.keep hlt hp)
    have HK2 := hid (fun hp => hK.out.skip hlt hp)
    obtain ⟨⟨y0, y1⟩, hxx⟩ : ∃ x : S46, l[j]'hlt = x := ⟨_, rfl⟩
    rw [hxx] at hx0 hx1 hxz HK1 HK2
    simp only at hx0 hx1 hxz
    have hask : askN name (⟨y0, y1⟩ : S46) = Pl.sameN y0 name := rfl
    obtain ⟨q, hq⟩ : ∃ q, Pl.sameN y0 name = q := ⟨_, rfl⟩
    have HQ : Hid (askN name (⟨y0, y1⟩ : S46) = q) := hask.trans hq
    have hcall := hid (fun W hW => HA.out b name y0 y1 W hn hxz hW)
    rw [hq] at hcall
    clear hask hq hcl hCL hat hxz hadd hfz hxx
    generalize L[i].f0 = o0 at hy0
    generalize L[i].f1 = o1 at hy1
    have c1 : ((0 : Int) ≤ (j : Int)) = True := eq_true (by omega)
    have c2 : ((j : Int) < (l.length : Int)) = True := eq_true (by omega)
    have c3 : decide ((j : Int) < (l.length : Int)) = true := decide_eq_true (by omega)
    have c4 : ((0 : Int) ≤ (i : Int)) = True := eq_true (by omega)
    have c5 : ((i : Int) < (l.length : Int)) = True := eq_true (by omega)
    clear hLl hiL hjL hij hjl
    cases q with
    | true =>
     go_wp2
     refine (hcall.out _ ((((Below.refl wr.heap.size wr).alloc (Nat.le_refl _) _).cell (p := ⟨b, 0, none⟩) hbrl).trans hbr)).mono ?_
     rintro e W2 ⟨rfl, b1⟩
     have B2 : Below wr.heap.size wr W2 := ((Below.refl wr.heap.size wr).alloc (Nat.le_refl _) _).trans (b1.mono (by simp))
     have HB2 := hid B2
     clear B2
     go_wp2
     go_roundw
     case rel => exact ⟨i, j + 1, L, rfl, by go_num, HK2.out HQ.out, Kd.R_below hRL.out HB2.out, (HB2.out.cell (p := ⟨b, 0, none⟩) hbrl).trans hbr, hbw.out.trans (HB2.out.mono (Nat.le_trans hbase hbw.out.size))⟩
     case measure => simp [intOf]; omega
    | false =>
     go_wp2
     refine (hcall.out _ ((((Below.refl wr.heap.size wr).alloc (Nat.le_refl _) _).cell (p := ⟨b, 0, none⟩) hbrl).trans hbr)).mono ?_
     rintro e W2 ⟨rfl, b1⟩
     have B2 : Below wr.heap.size wr W2 := ((Below.refl wr.heap.size wr).alloc (Nat.le_refl _) _).trans (b1.mono (by simp))
     have k0 : W2.cell? ⟨wr.heap.size, 0, none⟩ = some (.string y0) := (b1.cell (p := ⟨wr.heap.size, 0, none⟩) (by simp)).trans ((blk_cell (blk_new wr _) 0).trans rfl)
     have k1 : W2.cell? ⟨wr.heap.size, 1, none⟩ = some (.string y1) := (b1.cell (p := ⟨wr.heap.size, 1, none⟩) (by simp)).trans ((blk_cell (blk_new wr _) 1).trans rfl)
     have m0 := (B2.cell (p := ⟨g, i * 2, none⟩) hgl).trans hy0
     have m1 := (B2.cell (p := ⟨g, i * 2 + 1, none⟩) hgl).trans hy1
     have n0 := (B2.frozen (p := ⟨g, i * 2, none⟩) hgl).trans hf0
     have n1 := (B2.frozen (p := ⟨g, i * 2 + 1, none⟩) hgl).trans hf1
     have HB2 := hid B2
     clear B2
     go_wp2
     go_roundw
     case rel =>
      have hij := hK.out.lt
      have hjl := hK.out.le
      have hLl := hK.out.len
      have hS := (Kd.R_seg (Kd.R_below hRL.out HB2.out) (i : Int) (by omega) (by omega) (c := [.string o0, .string o1]) (seg := [.string y0, .string y1]) (j := 0) rfl (fun q u hq => by
       match q, hq with
       | 0, hq => obtain rfl := Option.some.inj hq; exact m0
       | 1, hq => obtain rfl := Option.some.inj hq; exact m1
       | q + 2, hq => simp at hq) (Nat.le_refl 2) (x' := (⟨y0, y1⟩ : S46)) (okp := fun k => k ≠ g) (k46_mkM W2 base _ ⟨y0, y1⟩) (fun k hk => ⟨trivial, hk⟩)).1
      rw [Int.toNat_natCast] at hS
      exact ⟨i + 1, j + 1, L.set i ⟨y0, y1⟩, by rw [Pl.wrap_succ i (by omega)], by go_num, HK1.out HQ.out, hS,
       ((cell_far (p := ⟨g, i * 2 + 1, none⟩) hbg _).trans ((cell_far (p := ⟨g, i * 2, none⟩) hbg _).trans ((HB2.out.cell (p := ⟨b, 0, none⟩) hbrl).trans hbr))),
       ((hbw.out.trans (HB2.out.mono (Nat.le_trans hbase hbw.out.size))).setCell (p := ⟨g, i * 2, none⟩) hg _).setCell (p := ⟨g, i * 2 + 1, none⟩) hg _⟩
     case measure => simp [intOf]; omega
   ·have hjn : j = l.length := by omega
    obtain ⟨vs, hvl, hclr⟩ := run_clear_fields wr g (i * 2) (l.length - i) (by omega) (fun q hq => by
     have hq2 : i + q / 2 < L.length := by omega
     obtain ⟨h0, h1⟩ := hcl (i + q / 2) hq2
     rcases (show q % 2 = 0 ∨ q % 2 = 1 by omega) with h2 | h2
     ·rw [show i * 2 + q = (i + q / 2) * 2 by omega, h0]; rfl
     ·rw [show i * 2 + q = (i + q / 2) * 2 + 1 by omega, h1]; rfl) (fun q _ => hfz _)
    have hlow := hid hK.out.low
    have hin : i ≤ l.length := by omega
    have hic : i < cap := by omega
    have c3 : decide ((j : Int) < (l.length : Int)) = false := decide_eq_false (by omega)
    have c6 : ((0 : Int) ≤ (i : Int)) = True := eq_true (by omega)
    have HVL := hid hvl
    have HIN := hid hin
    have HJN := hid hjn
    have HLL := hid hLl
    clear hvl hadd hfz hcl hCL hLl hjn hij hjl
    go_wp2
    go_ret
    have hfl : l.filter (fun x => !askN name x) = L.take i := by rw [hlow.out, HJN.out, List.take_of_length_le (Nat.le_refl _)]
    have hm : (l.filter (fun x => !askN name x)).length = i := by
     have := HLL.out
     rw [hfl, List.length_take]
     omega
    obtain ⟨s1, s2, s3, s4⟩ := setCells_same g vs (i * 2) wr
    have hfit : i * 2 + vs.length ≤ cap * 2 := by
     have := HVL.out
     omega
    refine ⟨by rw [hm]; rfl, ?_, hbw.out.trans ⟨s1, s2, s3, by rw [s4]; exact Nat.le_refl _, fun k hk => setCells_far vs _ k (by omega)⟩⟩
    rw [hm, hfl]
    exact R_beyond (R_cut hRL.out i HIN.out) vs (i * 2) (Nat.le_refl _) hfit
 ·have hidx : Pl.idxL (askN name) l = -1 := by unfold Pl.idxL; rw [if_neg hf]
  rw [hidx] at hIF
  have hall := firstI_all (askN name) l hf
  rw [hall]
  go_enter Tryz.func114, Tryz.ntmps114
  go_wp2_with (go_at_call 85; refine hIF.mono ?_; rintro e w1 ⟨rfl, b0⟩)
  go_ret
  exact ⟨_, rfl, rfl, Kd.R_below HR.out b0, b0.mono hbase⟩
end Go.Proofs.YtbjbpgmjijeppaaGreatDoor.Fn
set_option linter.unusedVariables false
set_option linter.unusedSimpArgs false
namespace Go.Proofs.YtbjbpgmjijeppaaGreatDoor.Fn
open Go.RowKit Go.Proofs.YtbjbpgmjijeppaaGreatDoorW.PrintWords

def flatF (l : List (S46)) : List Value := l.flatMap fun x => [.string x.f0, .string x.f1]
theorem flatF_cons (x : S46) (l : List (S46)) : flatF (x :: l) = .string x.f0 :: .string x.f1 :: flatF l := rfl
theorem flatF_len : ∀ l : List (S46), (flatF l).length = l.length * 2
 | [] => rfl
 | x :: l => by rw [flatF_cons, List.length_cons, List.length_cons, flatF_len l, List.length_cons]; omega
theorem flatF_one : ∀ (l : List (S46)), ∀ u ∈ flatF l, u.oneCell' = true
 | [], u, h => by cases h
 | x :: l, u, h => by
  rw [flatF_cons] at h
  rcases List.mem_cons.1 h with rfl | h
  ·rfl
  rcases List.mem_cons.1 h with rfl | h
  ·rfl
  ·exact flatF_one l u h
theorem flatF_at : ∀ (l : List (S46)) (j : Nat) (u : Value), (flatF l)[j]? = some u → ∃ x, l[j / 2]? = some x ∧ [Value.string x.f0, .string x.f1][j % 2]? = some u
 | [], j, u, h => by simp [flatF] at h
 | x :: l, 0, u, h => ⟨x, rfl, h⟩
 | x :: l, 1, u, h => ⟨x, rfl, h⟩
 | x :: l, j + 2, u, h => by
  rw [flatF_cons] at h
  obtain ⟨y, h1, h2⟩ := flatF_at l j u h
  refine ⟨y, ?_, ?_⟩
  ·rw [show (j + 2) / 2 = j / 2 + 1 by omega]; exact h1
  ·rw [show (j + 2) % 2 = j % 2 by omega]; exact h2
theorem flatF_part : ∀ (l : List (S46)) (j : Nat) (x : S46), l[j]? = some x → ((flatF l).drop (j * 2)).take 2 = [.string x.f0, .string x.f1]
 | [], j, x, h => by simp at h
 | y :: l, 0, x, h => by
  obtain rfl : y = x := by simpa using h
  rfl
 | y :: l, j + 1, x, h => by
  rw [flatF_cons, show (j + 1) * 2 = j * 2 + 1 + 1 by omega, List.drop_succ_cons, List.drop_succ_cons]
  exact flatF_part l j x (by simpa using h)
theorem reps_flat (w : World) (base : Nat) (ok : Nat → Prop) (l : List (S46)) : Reps (k46.M w base ok) 2 l (flatF l) :=
 ⟨flatF_len l, fun j p h => by rw [flatF_part l j p h]; exact k46_mkM w base ok p⟩
theorem flat_cells {w : World} {ad : Addr} {l : List (S46)} (hC : Kd.C k46 w (some ad) l.length l) (j : Nat) (u : Value) (h : (flatF l)[j]? = some u) : w.cell? (ad.add j) = some u := by
 obtain ⟨x, h1, h2⟩ := flatF_at l j u h
 have hj : j / 2 < l.length := (List.getElem?_eq_some_iff.1 h1).1
 obtain ⟨_, _, h3⟩ := hC
 obtain ⟨ad', e, h4⟩ := h3 (by omega)
 obtain rfl : ad = ad' := Option.some.inj e
 obtain ⟨c, _, hK, h5⟩ := h4 (j / 2) x h1
 obtain rfl := k46_open hK
 have h6 : w.cell? (ad.add (j / 2 * 2 + j % 2)) = some u := h5 (j % 2) u h2
 rwa [show j / 2 * 2 + j % 2 = j by omega] at h6
theorem R_of_row {w : World} {base : Nat} {v : Value} {l : List (S46)} (h : w.ownsRow base 46 2 v l.length (flatF l)) : Kd.R k46 46 w base (fun _ => True) v l :=
 ⟨fun k hk => trivial, flatF l, h, reps_flat w base _ l⟩
theorem info_field : ∃ i, Tryz.prog.info? 46 = some i ∧ i.zero = some (.agg #[.string ⟨#[]⟩, .string ⟨#[]⟩]) ∧ i.size = 2 ∧ i.bytes = 32 := by
 have h := info46
 cases hq : Tryz.prog.info? 46 with
 | none => rw [hq] at h; cases h
 | some i =>
  rw [hq] at h
  simp only [Option.map_some, Option.some.injEq, Prod.mk.injEq] at h
  exact ⟨i, rfl, h.1, h.2.1, h.2.2⟩
set_option maxHeartbeats 4000000 in
set_option maxRecDepth 100000 in
theorem Clone_some (ad : Addr) (c : Nat) (l : List (S46)) (w : World) (hC : Kd.C k46 w (some ad) l.length l) (hl : l.length ≤ 1000000000) :
  Calls Tryz.prog 87 #[.slice (some ad) l.length c] w fun e w' => ∃ v, e = .returned v ∧ Kd.R k46 46 w' w.heap.size (fun _ => True) v l ∧ v ≠ .slice none 0 0 ∧ Below w.heap.size w w' := by
 have HC := hid hC
 clear hC
 obtain ⟨i0, hi, hz0, hz1, hz2⟩ := info_field
 have hq : ∀ (w : World) (a : Option Addr) (n c n' c' : Nat), (binOp .eql 23 (.slice a n c) (.slice none n' c')).run Tryz.prog w = .ok (.bool a.isNone) w := fun w a n c n' c' => Lib.run_eql_slice_nil w _ _ a n c n' c' Tryz.underlying23
 go_enter Tryz.func87, Tryz.ntmps87
 go_wp2_with (at_builtin; refine wpList_append_own _ rfl _ _ 23 rfl w.heap.size 46 i0 _ 2 32 Tryz.underlying23 hi hz0 hz1 hz2 rfl (by decide) _ _ _ rfl (World.ownsRow_made w #[] 0 (Nat.le_refl _) (Nat.zero_le _) (by simp)) ad l.length c (flatF l) rfl ?qc1 ?qc2 ?qc3 ?qc4 ?qc5 ?qc6 ?_)
 case qc1 => exact flatF_len l
 case qc2 =>
  intro j u hj
  exact Lib.cell?_alloc_some _ (flat_cells HC.out j u hj)
 case qc3 => exact flatF_one l
 case qc4 => rw [Nat.zero_add]; unfold maxLen; omega
 case qc5 => rw [Nat.zero_add]; omega
 case qc6 => simp
 intro v' w1 hown hgrow hnil
 go_wp2
 go_ret
 refine ⟨v', rfl, R_of_row (by simpa using hown), ?_, ?_⟩
 ·exact hnil
 ·exact ((Below.refl _ w).alloc (Nat.le_refl _) _).grown hgrow (by simp) (by intro k hk; simp [Value.ownBlock] at hk; omega)
set_option maxHeartbeats 4000000 in
set_option maxRecDepth 100000 in
theorem Clone_none (n c : Nat) (w : World) : Calls Tryz.prog 87 #[.slice none n c] w fun e w' => e = .returned (.slice none 0 0) ∧ w' = w := by
 have hq : ∀ (w : World) (a : Option Addr) (n c n' c' : Nat), (binOp .eql 23 (.slice a n c) (.slice none n' c')).run Tryz.prog w = .ok (.bool a.isNone) w := fun w a n c n' c' => Lib.run_eql_slice_nil w _ _ a n c n' c' Tryz.underlying23
 go_enter Tryz.func87, Tryz.ntmps87
 go_wp2
 go_ret
 exact ⟨rfl, rfl⟩
end Go.Proofs.YtbjbpgmjijeppaaGreatDoor.Fn
set_option linter.unusedVariables false
set_option linter.unusedSimpArgs false
namespace Go.Proofs.YtbjbpgmjijeppaaGreatDoor.Fn
open Go.RowKit Go.Proofs.YtbjbpgmjijeppaaGreatDoorW.PrintWords

def withoutL (l : List (S46)) (name : ByteArray) : List (S46) := l.filter (fun x => !askN name x)
theorem enter_without : ∀ args w, (callFunc 115 args).run Tryz.prog w = .ok (.enter 115 args) w := enters_of Tryz.func115 (by kernel_rfl) rfl
theorem enter_put : ∀ args w, (callFunc 86 args).run Tryz.prog w = .ok (.enter 86 args) w := enters_of Tryz.func86 (by kernel_rfl) rfl
theorem row_form {W : World} {base : Nat} {ok : Nat → Prop} {v : Value} {l : List (S46)} (h : Kd.R k46 46 W base ok v l) (hne : v ≠ .slice none 0 0) : ∃ g cap, v = .slice (some ⟨g, 0, none⟩) l.length cap ∧ base ≤ g := by
 obtain ⟨_, inner, ⟨_, ho⟩, _⟩ := h
 rcases ho with ⟨hv, _⟩ | ⟨g, cap, cur, hv, hb, _⟩
 ·exact absurd hv hne
 ·exact ⟨g, cap, hv, hb⟩
end Go.Proofs.YtbjbpgmjijeppaaGreatDoor.Fn
set_option linter.unusedVariables false
set_option linter.unusedSimpArgs false
namespace Go.Proofs.YtbjbpgmjijeppaaGreatDoor.Fn
open Go.RowKit Go.Proofs.YtbjbpgmjijeppaaGreatDoorW.PrintWords

/-! Layer 15: a row of fields grows by another -/
theorem flat_of_reps {w : World} {base : Nat} {ok : Nat → Prop} : ∀ (l : List (S46)) (inner : List Value), Reps (k46.M w base ok) 2 l inner → inner = flatF l
 | [], inner, h => by
  have h1 : inner.length = 0 := h.1
  exact List.eq_nil_of_length_eq_zero h1
 | x :: l, inner, h => by
  have h0 := k46_openM (h.2 0 x rfl)
  rw [Nat.zero_mul, List.drop_zero] at h0
  have ih := flat_of_reps l (inner.drop 2) ⟨by rw [List.length_drop, h.1, List.length_cons]; omega, fun j p hj => by
   have h1 := h.2 (j + 1) p (by simpa using hj)
   rw [show (j + 1) * 2 = 2 + j * 2 by omega, ← List.drop_drop] at h1
   exact h1⟩
  rw [flatF_cons, ← ih]
  have h3 := List.take_append_drop 2 inner
  rw [h0] at h3
  exact h3.symm
theorem flatF_append (l m : List (S46)) : flatF (l ++ m) = flatF l ++ flatF m := List.flatMap_append
theorem own_of_fields {w : World} {base : Nat} {ok : Nat → Prop} {v : Value} {l : List (S46)} (h : Kd.R k46 46 w base ok v l) : w.ownsRow base 46 2 v l.length (flatF l) := by
 obtain ⟨_, inner, hown, hr⟩ := h
 obtain rfl := flat_of_reps l inner hr
 exact hown
theorem wp_append_fields {o : Oper} {a : Act} {K : Act → World → Prop} {Q : Exit → Act → World → Prop} {W : World} (base : Nat) (s x : Operand)
  (ho : o.op = .call { callee := .builtin .append, args := #[s, x], argTypes := #[23, 23] })
  (v : Value) (l m : List (S46)) (ad : Addr) (c : Nat) (hs : a.eval s = v) (hx : a.eval x = .slice (some ad) m.length c)
  (HO : Kd.R k46 46 W base (fun _ => True) v l) (hnews : ∀ j u, (flatF m)[j]? = some u → W.cell? (ad.add j) = some u) (hbase : base ≤ W.heap.size) (hl : l.length + m.length ≤ 2000000000)
  (h : ∀ v1 w1, Kd.R k46 46 w1 base (fun _ => True) v1 (l ++ m) → W.grownBy w1 v.ownBlock → (v1.ownBlock = v.ownBlock ∨ v1.ownBlock = some W.heap.size) → K (a.put o.dst v1) w1) :
  Oper.wp Tryz.prog o a W K Q := by
 obtain ⟨i0, hi, hz0, hz1, hz2⟩ := info_field
 obtain ⟨v', w', hr, h2, h3, h4, h5⟩ := run_append_own_at (P := Tryz.prog) W base 23 o.type 46 i0 _ 2 32 Tryz.underlying23 hi hz0 hz1 hz2 rfl (by decide) v l.length (flatF l) (own_of_fields HO) ad m.length c (flatF m) (flatF_len m) hnews (flatF_one m) (by unfold maxLen; omega) (by omega) hbase
 unfold Oper.wp execOp
 simp only [ho, resolve, invoke, builtin, Sem.run_bind, Sem.run_pure, Result.andThen_ok, List.map_toArray, List.map_cons, List.map_nil, hs, hx, hr]
 exact h v' w' (R_of_row (by rw [List.length_append, flatF_append]; exact h2)) h3 h5
theorem Clone_calls (A : Option Addr) (c : Nat) (l : List (S46)) (w : World) (hC : Kd.C k46 w A l.length l) (hl : l.length ≤ 1000000000) :
  Calls Tryz.prog 87 #[.slice A l.length c] w fun e w' => ∃ v, e = .returned v ∧ Kd.R k46 46 w' w.heap.size (fun _ => True) v l ∧ Below w.heap.size w w' := by
 cases A with
 | none =>
  have hnil : l = [] := by
   by_cases h0 : 0 < l.length
   ·obtain ⟨ad, e, _⟩ := hC.2.2 h0
    cases e
   ·exact List.eq_nil_of_length_eq_zero (by omega)
  subst hnil
  refine (Clone_none _ c w).mono ?_
  rintro e w1 ⟨rfl, rfl⟩
  exact ⟨_, rfl, Kd.R_nil _ _ _ _ _, Below.refl _ _⟩
 | some ad =>
  refine (Clone_some ad c l w hC hl).mono ?_
  rintro e w1 ⟨v, rfl, h1, _, h2⟩
  exact ⟨_, rfl, h1, h2⟩
end Go.Proofs.YtbjbpgmjijeppaaGreatDoor.Fn
set_option linter.unusedVariables false
set_option linter.unusedSimpArgs false
namespace Go.Proofs.YtbjbpgmjijeppaaGreatDoor.Fn
open Go.RowKit Go.Proofs.YtbjbpgmjijeppaaGreatDoorW.PrintWords Go.Proofs.YtbjbpgmjijeppaaGreatDoorW.PrintLast Go.Proofs.YtbjbpgmjijeppaaGreatDoorW.PrintMore

set_option maxHeartbeats 4000000 in
set_option maxRecDepth 100000 in
theorem head_Without.some (ad : Addr) (c : Nat) (l : List (S46)) (name : ByteArray) (w : World) (hC : Kd.C k46 w (some ad) l.length l) (hl : l.length ≤ 1000000000) (hn : name.size ≤ 35184372088832) (hz : ∀ x ∈ l, x.f0.size ≤ 35184372088832) :
  Calls Tryz.prog 88 #[.slice (.some ad) l.length c, .string name] w fun e w' => ∃ g cap, e = .returned (.slice (.some ⟨g, 0, none⟩) (withoutL l name).length cap) ∧ Kd.R k46 46 w' w.heap.size (fun _ => True) (.slice (.some ⟨g, 0, none⟩) (withoutL l name).length cap) (withoutL l name) ∧ Below w.heap.size w w' := by
 have HZ := hid hz
 have HCC := hid hC
 clear hz hC
 obtain ⟨w0, hw0⟩ : ∃ w0, w.alloc (.cells #[.string name] 9) = w0 := ⟨_, rfl⟩
 have HB0 := hid (show Below w.heap.size w w0 by rw [← hw0]; exact (Below.refl _ w).alloc (Nat.le_refl _) _)
 have hs0 : w0.heap.size = w.heap.size + 1 := by rw [← hw0]; simp
 have hcell : w0.cell? ⟨w.heap.size, 0, none⟩ = .some (.string name) := by rw [← hw0]; exact (blk_cell (blk_new w _) 0).trans rfl
 have hCl := hid (Clone_some ad c l w0 (Kd.C_below HCC.out HB0.out) hl)
 go_enter Tryz.func88, Tryz.ntmps88
 go_wp2_with (first
  | (go_at_call 87; refine hCl.out.mono ?_; rintro e w1 ⟨v, rfl, hR, hne, b1⟩; obtain ⟨g, cap, rfl, hg⟩ := row_form hR hne; have hb1 := (b1.cell (p := ⟨w.heap.size, 0, none⟩) (by show w.heap.size < w0.heap.size; omega)).trans hcell)
  | (go_at_call 114; refine (DeleteFunc_calls 115 asks_without enter_without w.heap.size name g cap w0.heap.size l w1 hR hl HZ.out hn hb1 (by omega) b1.size).mono ?_; rintro e w2 ⟨m, hm, rfl, hR2, b2⟩; subst hm))
 go_ret
 exact ⟨g, cap, rfl, Kd.R_lower (base' := w.heap.size) hR2 (show w.heap.size ≤ w0.heap.size by omega), HB0.out.trans ((b1.trans b2).mono (by omega))⟩
def putL (l : List (S46)) (f0 f1 : ByteArray) : List (S46) :=
 if Pl.firstI (askN f0) l < l.length then (l.take (Pl.firstI (askN f0) l) ++ [⟨f0, f1⟩]) ++ withoutL (l.drop (Pl.firstI (askN f0) l)) f0 else l ++ [⟨f0, f1⟩]
def head_Put.f (l : List (S46)) (f0 f1 : ByteArray) : Option (List (S46)) :=
 if l.length ≤ 500000000 then (if f0.size ≤ 35184372088832 then (if l.all (fun x => decide (x.f0.size ≤ 35184372088832)) = true then some (putL l f0 f1) else none) else none) else none
def head_Put.T3 : Bool × List (List Nat × List Nat) := (true, [([], []), ([0], [0]), ([], []), ([2], [2]), ([1, 3, 1], [1, 3]), ([4, 4, 0, 1, 2, 3, 4], [4])])
def head_Put.B3 : List Nat := [0, 1, 0, 4, 15, 31]
theorem head_Put.tab3 : rtab .any (opsOf Tryz.f59 3) = head_Put.T3 := by kernel_rfl
theorem head_Put.bits3 : waitsOk head_Put.T3.2 head_Put.B3 = true := by kernel_rfl
def head_Put.T4 : Bool × List (List Nat × List Nat) := (true,
 [([], []), ([], []), ([0, 1], [0, 1]), ([2], [2]), ([], []), ([4], [4]), ([3, 5, 3], [3, 5]), ([], []), ([], []),
  ([7, 8], [7, 8]), ([], []), ([10], [10]), ([9, 11, 6], [9, 11]), ([6, 12, 12], [6, 12]),
  ([13, 13, 0, 1, 2, 3, 4, 5, 6, 7, 8, 9, 10, 11, 12, 13], [13])])
def head_Put.B4 : List Nat := [0, 0, 3, 7, 0, 16, 63, 0, 0, 384, 0, 1024, 4095, 8191, 16383]
theorem head_Put.tab4 : rtab .any (opsOf Tryz.f59 4) = head_Put.T4 := by kernel_rfl
theorem head_Put.bits4 : waitsOk head_Put.T4.2 head_Put.B4 = true := by kernel_rfl
theorem lit_cells {W : World} {g : Nat} {f0 f1 : ByteArray} (h0 : W.cell? ⟨g, 0, none⟩ = some (.string f0)) (h1 : W.cell? ⟨g, 1, none⟩ = some (.string f1)) : ∀ (j : Nat) (u : Value), (flatF [⟨f0, f1⟩])[j]? = some u → W.cell? ((⟨g, 0, none⟩ : Addr).add j) = some u
 | 0, u, h => by
  obtain rfl : Value.string f0 = u := by simpa [flatF] using h
  exact h0
 | 1, u, h => by
  obtain rfl : Value.string f1 = u := by simpa [flatF] using h
  exact h1
 | j + 2, u, h => by simp [flatF] at h
theorem lit_alloc (W : World) (f0 f1 : ByteArray) : (W.alloc (.cells #[.string f0, .string f1] 46)).cell? ⟨W.heap.size, 0, none⟩ = some (.string f0) ∧ (W.alloc (.cells #[.string f0, .string f1] 46)).cell? ⟨W.heap.size, 1, none⟩ = some (.string f1) :=
 ⟨(blk_cell (blk_new W _) 0).trans rfl, (blk_cell (blk_new W _) 1).trans rfl⟩
set_option maxHeartbeats 4000000 in
set_option maxRecDepth 100000 in
theorem head_Put.calls (A : Option Addr) (c : Nat) (l : List (S46)) (f0 f1 : ByteArray) (r : List (S46)) (w : World) (hC : Kd.C k46 w A l.length l) (hc : l.length ≤ c) (h : head_Put.f l f0 f1 = some r) :
  Calls Tryz.prog 59 #[.slice A l.length c, .agg #[.string f0, .string f1]] w fun e w' => ∃ v, e = .returned v ∧ Kd.R k46 46 w' w.heap.size (fun _ => True) v r ∧ Below w.heap.size w w' := by
 unfold head_Put.f at h
 by_cases hl : l.length ≤ 500000000
 case neg => rw [if_neg hl] at h; exact absurd h (by simp)
 rw [if_pos hl] at h
 by_cases hn : f0.size ≤ 35184372088832
 case neg => rw [if_neg hn] at h; exact absurd h (by simp)
 rw [if_pos hn] at h
 by_cases hz : l.all (fun x => decide (x.f0.size ≤ 35184372088832)) = true
 case neg => rw [if_neg hz] at h; exact absurd h (by simp)
 rw [if_pos hz] at h
 have HR := hid (Option.some.inj h)
 have HZ := hid (fun x (hx : x ∈ l) => of_decide_eq_true (List.all_eq_true.1 hz x hx))
 have HCC := hid hC
 clear h hz hC
 obtain ⟨w0, hw0⟩ : ∃ w0, w.alloc (.cells #[.string f0, .string f1] 46) = w0 := ⟨_, rfl⟩
 have HB0 := hid (show Below w.heap.size w w0 by rw [← hw0]; exact (Below.refl _ w).alloc (Nat.le_refl _) _)
 have HS0 := hid (show w0.heap.size = w.heap.size + 1 by rw [← hw0]; simp)
 have HK0 := hid (show w0.heap[w.heap.size]? = some (.cells #[.string f0, .string f1] 46 (0, 0)) by rw [← hw0]; exact blk_new w _)
 have HIF := hid (IndexFunc_calls 86 asks_put enter_put w.heap.size f0 A c l w0 (Kd.C_below HCC.out HB0.out) (by omega) HZ.out hn ((blk_cell HK0.out 0).trans rfl))
 by_cases hf : Pl.firstI (askN f0) l < l.length
 case neg =>
  have hidx : Pl.idxL (askN f0) l = -1 := by unfold Pl.idxL; rw [if_neg hf]
  have hput : putL l f0 f1 = l ++ [⟨f0, f1⟩] := by unfold putL; rw [if_neg hf]
  have HR2 := hid (hput.symm.trans HR.out)
  rw [hidx] at HIF
  clear hidx hput HR hf
  go_enter Tryz.func59, Tryz.ntmps59
  go_wp2_with (go_at_call 85; refine HIF.out.mono ?_; rintro e w1 ⟨rfl, b1⟩)
  have HB2 := hid (below_drew1 (HB0.out.trans (b1.mono (by have := HS0.out; omega))))
  have HC2 := hid (Kd.C_drew (Kd.C_below (Kd.C_below HCC.out HB0.out) b1))
  have HK2 := hid (blk_drew ((b1.block w.heap.size (by rw [HS0.out]; omega)).trans HK0.out))
  have hg2 := hid (show w.heap.size + 1 ≤ w1.drew.heap.size by have := b1.size; have := HS0.out; simp; omega)
  clear b1 HIF HK0 HS0 HB0
  refine start_ (n := 6) (S := (fun w' => w'.cell? ⟨w.heap.size, 0, none⟩ = some (.string f0) ∧ w'.cell? ⟨w.heap.size, 1, none⟩ = some (.string f1))) (ds := []) #[false, false, false, false, false, false] (by kernel_rfl) rfl rfl ⟨(blk_cell HK2.out 0).trans rfl, (blk_cell HK2.out 1).trans rfl⟩ (fun hHeld => ?_); refine with_tabW head_Put.tab3 head_Put.bits3 (fun HT_ HW_ => ?_)
  generalize w1.drew = w2 at HB2 HC2 HK2 hg2 hHeld ⊢
  refine pure_ (i := 0) (N := some 11) (v := ?_) (a' := ?_) #[true, false, false, false, false, false] rfl rfl (any_of HT_.out (by kernel_rfl)) (fun _ _ _ h => h) (Or.inl ⟨by rfl, ?_⟩) ?_ ?_
  rotate_left
  ·intro w'
   go_simp
   with_reducible rfl
  rotate_left
  ·simp only [Act.put, List.setIfInBounds_toArray, List.set_cons_zero, List.set_cons_succ, i64_w, i32_w]
   rfl
  refine take_ (i := 2) (N := some 13) (v := ?_) (a' := ?_) #[true, false, true, false, false, false] rfl rfl (take_ofW HT_.out HW_.out (by kernel_rfl)) (fun _ _ _ h => h) (Or.inl ⟨by rfl, ?_⟩) hHeld ?_ ?_
  rotate_left
  ·rintro w' ⟨s0, s1⟩
   go_simp
   with_reducible rfl
  rotate_left
  ·simp only [Act.put, List.setIfInBounds_toArray, List.set_cons_zero, List.set_cons_succ, i64_w, i32_w]
   rfl
  have HX2 := HC2
  refine join_ (σ := Value × Nat) 2 #[true, true, true, true, false, false] (fun s_ => [(12, s_.1), (14, .slice (some ⟨s_.2, 0, none⟩) 1 1)]) (fun s_ w' => Kd.R k46 46 w' (w.heap.size + 1) (fun _ => True) s_.1 l ∧ w'.cell? ⟨s_.2, 0, none⟩ = some (.string f0) ∧ w'.cell? ⟨s_.2, 1, none⟩ = some (.string f1) ∧ Below (w.heap.size + 1) w2 w') ?_ ?_
  rotate_left
  ·intro hCont
   refine two_ (i := 1) (j := 3) (Ni := some 12) (Nj := some 14) #[true, true, true, false, false, false] #[true, false, true, true, false, false] rfl rfl rfl rfl (two_of HT_.out (by kernel_rfl)) (by decide) (by decide) (fun K hK => ?_) (fun K hK => ?_)
   ·skip
    refine goes_ Tryz.func87 (by kernel_rfl) rfl #[.slice A l.length c] (by rfl) rfl rfl (by (try simp only [List.map_toArray, List.map_cons, List.map_nil]); first | done | rfl) ?_
    refine (Clone_calls _ _ l w2 HX2.out (by first | omega | (simp; omega))).mono ?_
    rintro e w3 ⟨v, rfl, hRv, bv⟩
    refine ⟨_, rfl, ?_⟩
    have hbx := bv.mono (show w.heap.size + 1 ≤ w2.heap.size from hg2.out)
    have hk3 := (hbx.block w.heap.size (by omega)).trans HK2.out
    refine hK.out _ _ ⟨(blk_cell hk3 0).trans rfl, (blk_cell hk3 1).trans rfl⟩ (fun hHeld3 => ?_)
    clear hK K
    refine norm_ (a' := ?_) ?_ ?_
    rotate_left
    ·show Act.put _ (some 12) _ = _
     simp only [Act.put, List.setIfInBounds_toArray, List.set_cons_zero, List.set_cons_succ, i64_w, i32_w]
     rfl
    refine one_ (i := 3) (N := some 14) #[true, true, true, true, false, false] rfl rfl (one_of HT_.out (by kernel_rfl)) (by decide) (fun K hK => ?_)
    refine value_ (w1 := ?_) (v := ?_) (by rfl) rfl ?_ ?_
    rotate_left 2
    ·go_simp
     constructor
     ·rfl
     ·rfl
    have hbx2 := hbx.alloc (show w.heap.size + 1 ≤ w3.heap.size from Nat.le_trans hg2.out hbx.size) (.cells #[.string f0, .string f1] 46)
    have hk4 := blk_alloc hk3 (.cells #[.string f0, .string f1] 46)
    refine hK.out _ _ ⟨(blk_cell hk4 0).trans rfl, (blk_cell hk4 1).trans rfl⟩ (fun hHeld4 => ?_)
    clear hK K
    refine norm_ (a' := ?_) ?_ ?_
    rotate_left
    ·show Act.put _ (some 14) _ = _
     simp only [Act.put, List.setIfInBounds_toArray, List.set_cons_zero, List.set_cons_succ, i64_w, i32_w]
     rfl
    exact norm_ (by simp only [putAll, Act.put, List.setIfInBounds_toArray, List.set_cons_zero, List.set_cons_succ]) (hCont (v, w3.heap.size) _ ⟨Kd.R_alloc (Kd.R_lower hRv hg2.out) _, (lit_alloc w3 f0 f1).1, (lit_alloc w3 f0 f1).2, hbx2⟩)
   ·skip
    refine value_ (w1 := ?_) (v := ?_) (by rfl) rfl ?_ ?_
    rotate_left 2
    ·go_simp
     constructor
     ·rfl
     ·rfl
    have hb3 : Below (w.heap.size + 1) w2 (w2.alloc (.cells #[.string f0, .string f1] 46)) := (Below.refl _ w2).alloc hg2.out _
    have hC3 := Kd.C_alloc HX2.out (.cells #[.string f0, .string f1] 46)
    have hk3 := blk_alloc HK2.out (.cells #[.string f0, .string f1] 46)
    have hl3 := lit_alloc w2 f0 f1
    have hs3 : (w2.alloc (.cells #[.string f0, .string f1] 46)).heap.size = w2.heap.size + 1 := by simp
    refine hK.out _ _ ⟨(blk_cell hk3 0).trans rfl, (blk_cell hk3 1).trans rfl⟩ (fun hHeld3 => ?_)
    clear hK K
    refine norm_ (a' := ?_) ?_ ?_
    rotate_left
    ·show Act.put _ (some 14) _ = _
     simp only [Act.put, List.setIfInBounds_toArray, List.set_cons_zero, List.set_cons_succ, i64_w, i32_w]
     rfl
    generalize w2.alloc (.cells #[.string f0, .string f1] 46) = w3 at hb3 hC3 hk3 hl3 hs3 hHeld3 ⊢
    refine one_ (i := 1) (N := some 12) #[true, true, true, true, false, false] rfl rfl (one_of HT_.out (by kernel_rfl)) (by decide) (fun K hK => ?_)
    refine goes_ Tryz.func87 (by kernel_rfl) rfl #[.slice A l.length c] (by rfl) rfl rfl (by (try simp only [List.map_toArray, List.map_cons, List.map_nil]); first | done | rfl) ?_
    refine (Clone_calls _ _ l w3 hC3 (by first | omega | (simp; omega))).mono ?_
    rintro e w4 ⟨v, rfl, hRv, bv⟩
    refine ⟨_, rfl, ?_⟩
    have hbx := bv.mono (show w.heap.size + 1 ≤ w3.heap.size by have := hg2.out; omega)
    have hk4 := (hbx.block w.heap.size (by omega)).trans hk3
    refine hK.out _ _ ⟨(blk_cell hk4 0).trans rfl, (blk_cell hk4 1).trans rfl⟩ (fun hHeld4 => ?_)
    clear hK K
    refine norm_ (a' := ?_) ?_ ?_
    rotate_left
    ·show Act.put _ (some 12) _ = _
     simp only [Act.put, List.setIfInBounds_toArray, List.set_cons_zero, List.set_cons_succ, i64_w, i32_w]
     rfl
    exact norm_ (by simp only [putAll, Act.put, List.setIfInBounds_toArray, List.set_cons_zero, List.set_cons_succ]) (hCont (v, w2.heap.size) _ ⟨Kd.R_lower hRv (show w.heap.size + 1 ≤ w3.heap.size by have := hg2.out; omega), (bv.cell (by show w2.heap.size < w3.heap.size; omega)).trans hl3.1, (bv.cell (by show w2.heap.size < w3.heap.size; omega)).trans hl3.2, hb3.trans hbx⟩)
  rintro ⟨v12, g14⟩ w5 ⟨h5_0, h5_1, h5_2, h5_3⟩
  have HR5 := hid h5_0
  have HL5 := hid (lit_cells h5_1 h5_2)
  have HB5 := hid h5_3
  have HK5 := hid ((h5_3.block w.heap.size (by omega)).trans HK2.out)
  have hg5 := hid (show w.heap.size + 1 ≤ w5.heap.size by have := hg2.out; have := h5_3.size; omega)
  have hHeld5 : w5.cell? ⟨w.heap.size, 0, none⟩ = some (.string f0) ∧ w5.cell? ⟨w.heap.size, 1, none⟩ = some (.string f1) := ⟨(blk_cell HK5.out 0).trans rfl, (blk_cell HK5.out 1).trans rfl⟩
  clear h5_0 h5_1 h5_2 h5_3 hHeld
  have hHeld := hHeld5
  clear hHeld5
  refine norm_ (a' := ?_) ?_ ?_
  rotate_left
  ·simp only [putAll, Act.put, List.setIfInBounds_toArray, List.set_cons_zero, List.set_cons_succ]
   rfl
  refine one_ (i := 4) (N := some 15) #[true, true, true, true, true, false] rfl rfl (one_of HT_.out (by kernel_rfl)) (by decide) (fun K hK => ?_)
  refine wp_append_fields (W := w5) (w.heap.size + 1) _ _ rfl v12 l [⟨f0, f1⟩] ⟨g14, 0, none⟩ _ rfl rfl HR5.out HL5.out hg5.out (by show l.length + 1 ≤ 2000000000; omega) ?_
  intro vb w6 hRb hgb hob
  have hbb : Below (w.heap.size + 1) w5 w6 := (Below.refl _ w5).grown hgb hg5.out (fun k hk => Kd.R_base HR5.out k hk)
  have HR6 := hid hRb
  have HB6 := hid ((HB5.out).trans hbb)
  have HK6 := hid ((hbb.block w.heap.size (by omega)).trans HK5.out)
  have hg6 := hid (show w.heap.size + 1 ≤ w6.heap.size from Nat.le_trans hg5.out hbb.size)
  refine hK.out _ _ ⟨(blk_cell HK6.out 0).trans rfl, (blk_cell HK6.out 1).trans rfl⟩ (fun hHeld => ?_)
  clear hK K
  refine norm_ (a' := ?_) ?_ ?_
  rotate_left
  ·show Act.put _ (some 15) _ = _
   simp only [Act.put, List.setIfInBounds_toArray, List.set_cons_zero, List.set_cons_succ, i64_w, i32_w]
   rfl
  refine pure_ (i := 5) (N := some 4) (v := ?_) (a' := ?_) #[true, true, true, true, true, true] rfl rfl (any_of HT_.out (by kernel_rfl)) (fun _ _ _ h => h) (Or.inl ⟨by rfl, ?_⟩) ?_ ?_
  rotate_left
  ·intro w'
   go_simp
   with_reducible rfl
  rotate_left
  ·simp only [Act.put, List.setIfInBounds_toArray, List.set_cons_zero, List.set_cons_succ, i64_w, i32_w]
   rfl
  refine done_ (done_of HT_.out (by kernel_rfl)) ?_
  try go_wp2
  go_ret
  refine ⟨_, rfl, ?_, HB2.out.trans (HB6.out.mono (by omega))⟩
  rw [← HR2.out]
  exact Kd.R_lower HR6.out (by omega)
 case pos =>
  obtain ⟨i, hi⟩ : ∃ i, Pl.firstI (askN f0) l = i := ⟨_, rfl⟩
  have hidx : Pl.idxL (askN f0) l = (i : Int) := by unfold Pl.idxL; rw [if_pos hf, hi]
  have hput : putL l f0 f1 = (l.take i ++ [⟨f0, f1⟩]) ++ withoutL (l.drop i) f0 := by unfold putL; rw [if_pos hf, hi]
  have HR2 := hid (hput.symm.trans HR.out)
  rw [hidx] at HIF
  rw [hi] at hf
  clear hidx hput HR hi
  obtain ⟨ad, e0, _⟩ := HCC.out.2.2 (by omega)
  subst e0
  have c1 : decide ((i : Int) < 0) = false := decide_eq_false (by omega)
  have c2 : ((0 : Int) ≤ (i : Int)) = True := eq_true (by omega)
  have c3 : ((i : Int) ≤ (l.length : Int)) = True := eq_true (by omega)
  have c4 : ((i : Int) ≤ (c : Int)) = True := eq_true (by omega)
  have c5 : ((l.length : Int) ≤ (c : Int)) = True := eq_true (by omega)
  have c6 : (c = i) = False := eq_false (by omega)
  have c7 : (l.length ≤ c) = True := eq_true hc
  have c8 : (i ≤ c) = True := eq_true (by omega)
  have c9 : (i ≤ l.length) = True := eq_true (by omega)
  go_enter Tryz.func59, Tryz.ntmps59
  go_wp2_with (go_at_call 85; refine HIF.out.mono ?_; rintro e w1 ⟨rfl, b1⟩)
  have HB2 := hid (below_drew1 (HB0.out.trans (b1.mono (by have := HS0.out; omega))))
  have HC2 := hid (Kd.C_drew (Kd.C_below (Kd.C_below HCC.out HB0.out) b1))
  have HK2 := hid (blk_drew ((b1.block w.heap.size (by rw [HS0.out]; omega)).trans HK0.out))
  have hg2 := hid (show w.heap.size + 1 ≤ w1.drew.heap.size by have := b1.size; have := HS0.out; simp; omega)
  clear b1 HIF HK0 HS0 HB0
  refine start_ (n := 15) (S := (fun w' => w'.cell? ⟨w.heap.size, 0, none⟩ = some (.string f0) ∧ w'.cell? ⟨w.heap.size, 1, none⟩ = some (.string f1))) (ds := []) #[false, false, false, false, false, false, false, false, false, false, false, false, false, false, false] (by kernel_rfl) rfl rfl ⟨(blk_cell HK2.out 0).trans rfl, (blk_cell HK2.out 1).trans rfl⟩ (fun hHeld => ?_); refine with_tabW head_Put.tab4 head_Put.bits4 (fun HT_ HW_ => ?_)
  generalize w1.drew = w2 at HB2 HC2 HK2 hg2 hHeld ⊢
  refine pure_ (i := 0) (N := some 16) (v := ?_) (a' := ?_) #[true, false, false, false, false, false, false, false, false, false, false, false, false, false, false] rfl rfl (any_of HT_.out (by kernel_rfl)) (fun _ _ _ h => h) (Or.inl ⟨by rfl, ?_⟩) ?_ ?_
  rotate_left
  ·intro w'
   go_simp
   with_reducible rfl
  rotate_left
  ·simp only [Act.put, List.setIfInBounds_toArray, List.set_cons_zero, List.set_cons_succ, i64_w, i32_w]
   rfl
  refine pure_ (i := 1) (N := some 17) (v := ?_) (a' := ?_) #[true, true, false, false, false, false, false, false, false, false, false, false, false, false, false] rfl rfl (any_of HT_.out (by kernel_rfl)) (fun _ _ _ h => h) (Or.inl ⟨by rfl, ?_⟩) ?_ ?_
  rotate_left
  ·intro w'
   go_simp
   with_reducible rfl
  rotate_left
  ·simp only [Act.put, List.setIfInBounds_toArray, List.set_cons_zero, List.set_cons_succ, i64_w, i32_w]
   rfl
  refine pure_ (i := 2) (N := some 18) (v := ?_) (a' := ?_) #[true, true, true, false, false, false, false, false, false, false, false, false, false, false, false] rfl rfl (any_of HT_.out (by kernel_rfl)) (fun _ _ _ h => h) (Or.inl ⟨by rfl, ?_⟩) ?_ ?_
  rotate_left
  ·intro w'
   go_simp
   with_reducible rfl
  rotate_left
  ·simp only [Act.put, List.setIfInBounds_toArray, List.set_cons_zero, List.set_cons_succ, i64_w, i32_w]
   rfl
  refine take_ (i := 4) (N := some 20) (v := ?_) (a' := ?_) #[true, true, true, false, true, false, false, false, false, false, false, false, false, false, false] rfl rfl (take_ofW HT_.out HW_.out (by kernel_rfl)) (fun _ _ _ h => h) (Or.inl ⟨by rfl, ?_⟩) hHeld ?_ ?_
  rotate_left
  ·rintro w' ⟨s0, s1⟩
   go_simp
   with_reducible rfl
  rotate_left
  ·simp only [Act.put, List.setIfInBounds_toArray, List.set_cons_zero, List.set_cons_succ, i64_w, i32_w]
   rfl
  refine pure_ (i := 7) (N := some 23) (v := ?_) (a' := ?_) #[true, true, true, false, true, false, false, true, false, false, false, false, false, false, false] rfl rfl (any_of HT_.out (by kernel_rfl)) (fun _ _ _ h => h) (Or.inl ⟨by rfl, ?_⟩) ?_ ?_
  rotate_left
  ·intro w'
   go_simp
   with_reducible rfl
  rotate_left
  ·simp only [Act.put, List.setIfInBounds_toArray, List.set_cons_zero, List.set_cons_succ, i64_w, i32_w]
   rfl
  refine pure_ (i := 8) (N := some 24) (v := ?_) (a' := ?_) #[true, true, true, false, true, false, false, true, true, false, false, false, false, false, false] rfl rfl (any_of HT_.out (by kernel_rfl)) (fun _ _ _ h => h) (Or.inl ⟨by rfl, ?_⟩) ?_ ?_
  rotate_left
  ·intro w'
   go_simp
   with_reducible rfl
  rotate_left
  ·simp only [Act.put, List.setIfInBounds_toArray, List.set_cons_zero, List.set_cons_succ, i64_w, i32_w]
   rfl
  refine pure_ (i := 9) (N := some 25) (v := ?_) (a' := ?_) #[true, true, true, false, true, false, false, true, true, true, false, false, false, false, false] rfl rfl (any_of HT_.out (by kernel_rfl)) (fun _ _ _ h => h) (Or.inl ⟨by rfl, ?_⟩) ?_ ?_
  rotate_left
  ·intro w'
   go_simp
   with_reducible rfl
  rotate_left
  ·simp only [Act.put, List.setIfInBounds_toArray, List.set_cons_zero, List.set_cons_succ, i64_w, i32_w]
   rfl
  refine pure_ (i := 10) (N := some 26) (v := ?_) (a' := ?_) #[true, true, true, false, true, false, false, true, true, true, true, false, false, false, false] rfl rfl (any_of HT_.out (by kernel_rfl)) (fun _ _ _ h => h) (Or.inl ⟨by rfl, ?_⟩) ?_ ?_
  rotate_left
  ·intro w'
   go_simp
   with_reducible rfl
  rotate_left
  ·simp only [Act.put, List.setIfInBounds_toArray, List.set_cons_zero, List.set_cons_succ, i64_w, i32_w]
   rfl
  refine take_ (i := 11) (N := some 27) (v := ?_) (a' := ?_) #[true, true, true, false, true, false, false, true, true, true, true, true, false, false, false] rfl rfl (take_ofW HT_.out HW_.out (by kernel_rfl)) (fun _ _ _ h => h) (Or.inl ⟨by rfl, ?_⟩) hHeld ?_ ?_
  rotate_left
  ·rintro w' ⟨s0, s1⟩
   go_simp
   with_reducible rfl
  rotate_left
  ·simp only [Act.put, List.setIfInBounds_toArray, List.set_cons_zero, List.set_cons_succ, i64_w, i32_w]
   rfl
  have HX2 := hid (Kd.C_take HC2.out (show i ≤ l.length by omega))
  have hlen : (l.take i).length = i := by rw [List.length_take]; omega
  have hlen2 : (l.drop i).length = l.length - i := List.length_drop
  refine join_ (σ := Value × Nat) 4 #[true, true, true, true, true, true, false, true, true, true, true, true, false, false, false] (fun s_ => [(19, s_.1), (21, .slice (some ⟨s_.2, 0, none⟩) 1 1)]) (fun s_ w' => Kd.R k46 46 w' (w.heap.size + 1) (fun _ => True) s_.1 (l.take i) ∧ w'.cell? ⟨s_.2, 0, none⟩ = some (.string f0) ∧ w'.cell? ⟨s_.2, 1, none⟩ = some (.string f1) ∧ Below (w.heap.size + 1) w2 w') ?_ ?_
  rotate_left
  ·intro hCont
   refine two_ (i := 3) (j := 5) (Ni := some 19) (Nj := some 21) #[true, true, true, true, true, false, false, true, true, true, true, true, false, false, false] #[true, true, true, false, true, true, false, true, true, true, true, true, false, false, false] rfl rfl rfl rfl (two_of HT_.out (by kernel_rfl)) (by decide) (by decide) (fun K hK => ?_) (fun K hK => ?_)
   ·skip
    refine goes_ Tryz.func87 (by kernel_rfl) rfl #[.slice (some ad) i c] (by rfl) rfl rfl (by (try simp only [List.map_toArray, List.map_cons, List.map_nil]); first | done | rfl) ?_
    refine (show Calls Tryz.prog _ #[.slice (some ad) i c] w2 _ from hlen ▸ Clone_calls (some ad) c (l.take i) w2 HX2.out (by omega)).mono ?_
    rintro e w3 ⟨v, rfl, hRv, bv⟩
    refine ⟨_, rfl, ?_⟩
    have hbx := bv.mono (show w.heap.size + 1 ≤ w2.heap.size from hg2.out)
    have hk3 := (hbx.block w.heap.size (by omega)).trans HK2.out
    refine hK.out _ _ ⟨(blk_cell hk3 0).trans rfl, (blk_cell hk3 1).trans rfl⟩ (fun hHeld3 => ?_)
    clear hK K
    refine norm_ (a' := ?_) ?_ ?_
    rotate_left
    ·show Act.put _ (some 19) _ = _
     simp only [Act.put, List.setIfInBounds_toArray, List.set_cons_zero, List.set_cons_succ, i64_w, i32_w]
     rfl
    refine one_ (i := 5) (N := some 21) #[true, true, true, true, true, true, false, true, true, true, true, true, false, false, false] rfl rfl (one_of HT_.out (by kernel_rfl)) (by decide) (fun K hK => ?_)
    refine value_ (w1 := ?_) (v := ?_) (by rfl) rfl ?_ ?_
    rotate_left 2
    ·go_simp
     constructor
     ·rfl
     ·rfl
    have hbx2 := hbx.alloc (show w.heap.size + 1 ≤ w3.heap.size from Nat.le_trans hg2.out hbx.size) (.cells #[.string f0, .string f1] 46)
    have hk4 := blk_alloc hk3 (.cells #[.string f0, .string f1] 46)
    refine hK.out _ _ ⟨(blk_cell hk4 0).trans rfl, (blk_cell hk4 1).trans rfl⟩ (fun hHeld4 => ?_)
    clear hK K
    refine norm_ (a' := ?_) ?_ ?_
    rotate_left
    ·show Act.put _ (some 21) _ = _
     simp only [Act.put, List.setIfInBounds_toArray, List.set_cons_zero, List.set_cons_succ, i64_w, i32_w]
     rfl
    exact norm_ (by simp only [putAll, Act.put, List.setIfInBounds_toArray, List.set_cons_zero, List.set_cons_succ]) (hCont (v, w3.heap.size) _ ⟨Kd.R_alloc (Kd.R_lower hRv hg2.out) _, (lit_alloc w3 f0 f1).1, (lit_alloc w3 f0 f1).2, hbx2⟩)
   ·skip
    refine value_ (w1 := ?_) (v := ?_) (by rfl) rfl ?_ ?_
    rotate_left 2
    ·go_simp
     constructor
     ·rfl
     ·rfl
    have hb3 : Below (w.heap.size + 1) w2 (w2.alloc (.cells #[.string f0, .string f1] 46)) := (Below.refl _ w2).alloc hg2.out _
    have hC3 := Kd.C_alloc HX2.out (.cells #[.string f0, .string f1] 46)
    have hk3 := blk_alloc HK2.out (.cells #[.string f0, .string f1] 46)
    have hl3 := lit_alloc w2 f0 f1
    have hs3 : (w2.alloc (.cells #[.string f0, .string f1] 46)).heap.size = w2.heap.size + 1 := by simp
    refine hK.out _ _ ⟨(blk_cell hk3 0).trans rfl, (blk_cell hk3 1).trans rfl⟩ (fun hHeld3 => ?_)
    clear hK K
    refine norm_ (a' := ?_) ?_ ?_
    rotate_left
    ·show Act.put _ (some 21) _ = _
     simp only [Act.put, List.setIfInBounds_toArray, List.set_cons_zero, List.set_cons_succ, i64_w, i32_w]
     rfl
    generalize w2.alloc (.cells #[.string f0, .string f1] 46) = w3 at hb3 hC3 hk3 hl3 hs3 hHeld3 ⊢
    refine one_ (i := 3) (N := some 19) #[true, true, true, true, true, true, false, true, true, true, true, true, false, false, false] rfl rfl (one_of HT_.out (by kernel_rfl)) (by decide) (fun K hK => ?_)
    refine goes_ Tryz.func87 (by kernel_rfl) rfl #[.slice (some ad) i c] (by rfl) rfl rfl (by (try simp only [List.map_toArray, List.map_cons, List.map_nil]); first | done | rfl) ?_
    refine (show Calls Tryz.prog _ #[.slice (some ad) i c] w3 _ from hlen ▸ Clone_calls (some ad) c (l.take i) w3 hC3 (by omega)).mono ?_
    rintro e w4 ⟨v, rfl, hRv, bv⟩
    refine ⟨_, rfl, ?_⟩
    have hbx := bv.mono (show w.heap.size + 1 ≤ w3.heap.size by have := hg2.out; omega)
    have hk4 := (hbx.block w.heap.size (by omega)).trans hk3
    refine hK.out _ _ ⟨(blk_cell hk4 0).trans rfl, (blk_cell hk4 1).trans rfl⟩ (fun hHeld4 => ?_)
    clear hK K
    refine norm_ (a' := ?_) ?_ ?_
    rotate_left
    ·show Act.put _ (some 19) _ = _
     simp only [Act.put, List.setIfInBounds_toArray, List.set_cons_zero, List.set_cons_succ, i64_w, i32_w]
     rfl
    exact norm_ (by simp only [putAll, Act.put, List.setIfInBounds_toArray, List.set_cons_zero, List.set_cons_succ]) (hCont (v, w2.heap.size) _ ⟨Kd.R_lower hRv (show w.heap.size + 1 ≤ w3.heap.size by have := hg2.out; omega), (bv.cell (by show w2.heap.size < w3.heap.size; omega)).trans hl3.1, (bv.cell (by show w2.heap.size < w3.heap.size; omega)).trans hl3.2, hb3.trans hbx⟩)
  rintro ⟨v12, g14⟩ w5 ⟨h5_0, h5_1, h5_2, h5_3⟩
  have HR5 := hid h5_0
  have HL5 := hid (lit_cells h5_1 h5_2)
  have HB5 := hid h5_3
  have HK5 := hid ((h5_3.block w.heap.size (by omega)).trans HK2.out)
  have hg5 := hid (show w.heap.size + 1 ≤ w5.heap.size by have := hg2.out; have := h5_3.size; omega)
  clear h5_0 h5_1 h5_2 h5_3 hHeld
  refine norm_ (a' := ?_) ?_ ?_
  rotate_left
  ·simp only [putAll, Act.put, List.setIfInBounds_toArray, List.set_cons_zero, List.set_cons_succ]
   rfl
  refine one_ (i := 6) (N := some 22) #[true, true, true, true, true, true, true, true, true, true, true, true, false, false, false] rfl rfl (one_of HT_.out (by kernel_rfl)) (by decide) (fun K hK => ?_)
  refine wp_append_fields (W := w5) (w.heap.size + 1) _ _ rfl v12 (l.take i) [⟨f0, f1⟩] ⟨g14, 0, none⟩ _ rfl rfl HR5.out HL5.out hg5.out (by show (l.take i).length + 1 ≤ 2000000000; omega) ?_
  intro vb w6 hRb hgb hob
  have hbb : Below (w.heap.size + 1) w5 w6 := (Below.refl _ w5).grown hgb hg5.out (fun k hk => Kd.R_base HR5.out k hk)
  have HR6 := hid hRb
  have HB6 := hid ((HB5.out).trans hbb)
  have HK6 := hid ((hbb.block w.heap.size (by omega)).trans HK5.out)
  have hg6 := hid (show w.heap.size + 1 ≤ w6.heap.size from Nat.le_trans hg5.out hbb.size)
  refine hK.out _ _ ⟨(blk_cell HK6.out 0).trans rfl, (blk_cell HK6.out 1).trans rfl⟩ (fun hHeld => ?_)
  clear hK K hRb hgb hob hbb HR5 HL5 HK5 hg5
  refine norm_ (a' := ?_) ?_ ?_
  rotate_left
  ·show Act.put _ (some 22) _ = _
   simp only [Act.put, List.setIfInBounds_toArray, List.set_cons_zero, List.set_cons_succ, i64_w, i32_w]
   rfl
  have HD6 : Hid (Kd.C k46 w6 (some (ad.add (i * 2))) (l.drop i).length (l.drop i)) := by
   have h := Kd.C_below (Kd.C_drop HCC.out (show i ≤ l.length by omega) hc) (HB2.out.trans (HB6.out.mono (Nat.le_succ _)))
   rw [if_neg (by omega)] at h
   exact h
  refine one_ (i := 12) (N := some 28) #[true, true, true, true, true, true, true, true, true, true, true, true, true, false, false] rfl rfl (one_of HT_.out (by kernel_rfl)) (by decide) (fun K hK => ?_)
  refine goes_ Tryz.func88 (by kernel_rfl) rfl #[.slice (some (ad.add (i * 2))) (l.length - i) (c - i), .string f0] (by rfl) rfl rfl (by (try simp only [List.map_toArray, List.map_cons, List.map_nil]); first | done | rfl) ?_
  refine (show Calls Tryz.prog _ #[.slice (some (ad.add (i * 2))) (l.length - i) (c - i), .string f0] w6 _ from hlen2 ▸ head_Without.some (ad.add (i * 2)) (c - i) (l.drop i) f0 w6 HD6.out (by omega) hn (fun x hx => HZ.out x (List.mem_of_mem_drop hx))).mono ?_
  rintro e w7 ⟨g28, c28, rfl, hR28, bv⟩
  refine ⟨_, rfl, ?_⟩
  have HN7 := hid (flat_cells (Kd.R_reads' hR28).2.2)
  have HR7 := hid (Kd.R_below HR6.out bv)
  have HB7 := hid (HB6.out.trans (bv.mono hg6.out))
  have HK7 := hid ((bv.block w.heap.size (by have := hg6.out; omega)).trans HK6.out)
  have hg7 := hid (show w.heap.size + 1 ≤ w7.heap.size from Nat.le_trans hg6.out bv.size)
  refine hK.out _ _ ⟨(blk_cell HK7.out 0).trans rfl, (blk_cell HK7.out 1).trans rfl⟩ (fun hHeld => ?_)
  clear hK K hR28 bv HR6 HD6 HK6
  refine norm_ (a' := ?_) ?_ ?_
  rotate_left
  ·show Act.put _ (some 28) _ = _
   simp only [Act.put, List.setIfInBounds_toArray, List.set_cons_zero, List.set_cons_succ, i64_w, i32_w]
   rfl
  have hw28 : (withoutL (l.drop i) f0).length ≤ l.length := Nat.le_trans (List.length_filter_le _ _) (by omega)
  refine one_ (i := 13) (N := some 29) #[true, true, true, true, true, true, true, true, true, true, true, true, true, true, false] rfl rfl (one_of HT_.out (by kernel_rfl)) (by decide) (fun K hK => ?_)
  refine wp_append_fields (W := w7) (w.heap.size + 1) _ _ rfl vb (l.take i ++ [⟨f0, f1⟩]) (withoutL (l.drop i) f0) ⟨g28, 0, none⟩ _ rfl rfl HR7.out HN7.out hg7.out (by rw [List.length_append]; show (l.take i).length + 1 + _ ≤ 2000000000; omega) ?_
  intro vc w8 hRc hgc hoc
  have hbc : Below (w.heap.size + 1) w7 w8 := (Below.refl _ w7).grown hgc hg7.out (fun k hk => Kd.R_base HR7.out k hk)
  have HR8 := hid hRc
  have HB8 := hid ((HB7.out).trans hbc)
  have HK8 := hid ((hbc.block w.heap.size (by omega)).trans HK7.out)
  refine hK.out _ _ ⟨(blk_cell HK8.out 0).trans rfl, (blk_cell HK8.out 1).trans rfl⟩ (fun hHeld => ?_)
  clear hK K hRc hgc hoc hbc HR7 HN7
  refine norm_ (a' := ?_) ?_ ?_
  rotate_left
  ·show Act.put _ (some 29) _ = _
   simp only [Act.put, List.setIfInBounds_toArray, List.set_cons_zero, List.set_cons_succ, i64_w, i32_w]
   rfl
  refine pure_ (i := 14) (N := some 4) (v := ?_) (a' := ?_) #[true, true, true, true, true, true, true, true, true, true, true, true, true, true, true] rfl rfl (any_of HT_.out (by kernel_rfl)) (fun _ _ _ h => h) (Or.inl ⟨by rfl, ?_⟩) ?_ ?_
  rotate_left
  ·intro w'
   go_simp
   with_reducible rfl
  rotate_left
  ·simp only [Act.put, List.setIfInBounds_toArray, List.set_cons_zero, List.set_cons_succ, i64_w, i32_w]
   rfl
  refine done_ (done_of HT_.out (by kernel_rfl)) ?_
  try go_wp2
  go_ret
  refine ⟨_, rfl, ?_, HB2.out.trans (HB8.out.mono (by omega))⟩
  rw [← HR2.out]
  exact Kd.R_lower HR8.out (by omega)
end Go.Proofs.YtbjbpgmjijeppaaGreatDoor.Fn
namespace Go.Proofs.YtbjbpgmjijeppaaGreatDoor.Fn
open Go.RowKit Go.Proofs.YtbjbpgmjijeppaaGreatDoorW.PrintWords Go.Proofs.YtbjbpgmjijeppaaGreatDoorW.PrintLast Go.Proofs.YtbjbpgmjijeppaaGreatDoorW.PrintMore
attribute [local go_sem] max2_int min2_int max_two min_two max_three min_three max_four min_four
set_option linter.unusedVariables false
set_option linter.unusedSimpArgs false

def msg_Message_With.f (l0_0 : List (S46)) (a0_1 : ByteArray) (a1 : ByteArray) (a2 : ByteArray) : Option ((List (S46)) × ByteArray) := (head_Put.f l0_0 a1 a2).bind fun t617 => (some (t617, a0_1))
def msg_Message_With.T1 : Bool × List (List Nat × List Nat) := (true, [([], []), ([0], [0]), ([], []), ([], []), ([2, 3], [2, 3]), ([1, 4], [1, 4]), ([], []), ([6], [6]), ([5, 7], [5, 7]), ([8, 5, 0, 1, 2, 3, 4, 5, 6, 7, 8], [8])])
def msg_Message_With.B1 : List Nat := [0, 1, 0, 0, 12, 31, 0, 64, 255, 511]
theorem msg_Message_With.tab1 : rtab .any (opsOf Tryz.f34 1) = msg_Message_With.T1 := by kernel_rfl
theorem msg_Message_With.bits1 : waitsOk msg_Message_With.T1.2 msg_Message_With.B1 = true := by kernel_rfl
set_option maxHeartbeats 8000000 in
set_option maxRecDepth 100000 in
theorem msg_Message_With.calls (A0_0 : Option Addr) (c0_0 : Nat) (l0_0 : List (S46)) (a0_1 : ByteArray) (a1 : ByteArray) (a2 : ByteArray) (r1 : List (S46)) (r2 : ByteArray) (w : World) (hr0_0 : Kd.C k46 w A0_0 l0_0.length l0_0) (hc0_0 : l0_0.length ≤ c0_0) (h : msg_Message_With.f l0_0 a0_1 a1 a2 = some (r1, r2)) :
  Calls Tryz.prog 34 #[.agg #[.slice A0_0 l0_0.length c0_0, .string a0_1], .string a1, .string a2] w fun e w' => ∃ v0_ : Value, e = .returned (.agg #[v0_, .string r2]) ∧ Kd.R k46 46 w' w.heap.size (fun _ => True) v0_ r1 ∧ Below w.heap.size w w' := by
 have hu25 := Tryz.underlying25; have hu46 := Tryz.underlying46; have HR0_0 := Aside0.mk hr0_0; have HC0_0 := Aside0.mk hc0_0; clear hr0_0 hc0_0; have HB := Aside0.mk (Below.refl w.heap.size w); have H : ((head_Put.f l0_0 a1 a2).bind fun t617 => (some (t617, a0_1))) = some (r1, r2) := h; clear h; replace H := Option.bind_eq_some_iff.mp H; obtain ⟨t617, A40, H⟩ := H; replace H : (some (t617, a0_1)) = some (r1, r2) := H; have A4 := Aside0.mk A40; clear A40; simp only [Option.some.injEq, Prod.mk.injEq] at H; obtain ⟨rfl, rfl⟩ := H
 go_enter Tryz.func34, Tryz.ntmps34
 try go_wp2_with (first | ((with_reducible refine gate_dst (N := 3) rfl ?_); refine box_event ?hg (N := 3) ?hd (cs := #[.slice A0_0 l0_0.length c0_0, .string a0_1]) (t := 25) ?hr ?_; (case hd => rfl); (case hg => rfl); (case hr => first | (go_simp; done) | (go_simp; rfl)); intro gb615 hg w5 hbox hb; have n0_ := Aside0.mk (below_step bw hb); have n1_ := Aside0.mk (hbox); have n2_ := Aside0.mk ((by rw [hg]; exact (below_size bw) : w.heap.size ≤ gb615)); have n3_ := Aside0.mk ((by rw [hg]; exact (below_size bw) : w.heap.size ≤ gb615)); clear HB; have HB := n0_; have BK615 := n1_; have GW615 := n2_; have GE615 := n3_; clear n0_ n1_ n2_ n3_; clear hb hbox hg) | ((with_reducible refine gate_dst (N := 6) rfl ?_); refine box_event ?hg (N := 6) ?hd (cs := #[.slice none 0 0, .string (⟨#[]⟩ : ByteArray)]) (t := 25) ?hr ?_; (case hd => rfl); (case hg => rfl); (case hr => first | (go_simp; done) | (go_simp; rfl)); intro gb616 hg w6 hbox hb; have n0_ := Aside0.mk (blk_below (g := gb615) (o := .cells #[.slice A0_0 l0_0.length c0_0, .string a0_1] 25 (0, 0)) bk hb); have n1_ := Aside0.mk (below_step bwS hb); have n2_ := Aside0.mk (hbox); have n3_ := Aside0.mk ((by rw [hg]; exact (below_size bwS) : w.heap.size ≤ gb616)); have n4_ := Aside0.mk ((by rw [hg]; exact (below_size bwS) : w.heap.size ≤ gb616)); have n5_ := Aside0.mk ((by rw [hg]; exact Nat.ne_of_lt (blk_lt (g := gb615) (o := .cells #[.slice A0_0 l0_0.length c0_0, .string a0_1] 25 (0, 0)) bk) : gb615 ≠ gb616)); have n6_ := Aside0.mk ((by rw [hg]; exact Nat.ne_of_gt (blk_lt (g := gb615) (o := .cells #[.slice A0_0 l0_0.length c0_0, .string a0_1] 25 (0, 0)) bk) : gb616 ≠ gb615)); clear BK615; clear HB; have BK615 := n0_; have HB := n1_; have BK616 := n2_; have GW616 := n3_; have GE616 := n4_; have NB615_616 := n5_; have NB616_615 := n6_; clear n0_ n1_ n2_ n3_ n4_ n5_ n6_; clear hb hbox hg))
 have n0_ := Aside0.mk (blk_drew BK615.out); have n1_ := Aside0.mk (blk_drew BK616.out); have n2_ := Aside0.mk (below_drew1 HB.out); clear BK615 BK616 HB; have BK615 := n0_; have BK616 := n1_; have HB := n2_; clear n0_ n1_ n2_; refine start_ (n := 10) (S := fun w' => w'.cell? ⟨gb615, 0, none⟩ = some (.slice A0_0 l0_0.length c0_0) ∧ w'.cell? ⟨gb615, 1, none⟩ = some (.string a0_1)) (ds := []) #[false, false, false, false, false, false, false, false, false, false] (by kernel_rfl) rfl rfl ⟨(blk_cell BK615.out 0).trans rfl, (blk_cell BK615.out 1).trans rfl⟩ (fun hHeld => ?_); refine with_tabW msg_Message_With.tab1 msg_Message_With.bits1 (fun HT_ HW_ => ?_)
 generalize w6.drew = w7 at BK615 BK616 HB hHeld ⊢
 refine pure_ (i := 0) (N := some 7) (v := ?_) (a' := ?_) (bitsL 10 1) rfl rfl (any_of HT_.out (by kernel_rfl)) (fun _ _ _ h => h) (Or.inl ⟨by rfl, ?_⟩) ?_ ?_; rotate_left
 ·intro w'; go_simp; with_reducible rfl
 rotate_left
 ·simp only [Act.put, List.setIfInBounds_toArray, List.set_cons_zero, List.set_cons_succ, i64_w, i32_w]; rfl
 refine pure_ (i := 2) (N := some 9) (v := ?_) (a' := ?_) (bitsL 10 5) rfl rfl (any_of HT_.out (by kernel_rfl)) (fun _ _ _ h => h) (Or.inl ⟨by rfl, ?_⟩) ?_ ?_; rotate_left
 ·intro w'; go_simp; with_reducible rfl
 rotate_left
 ·simp only [Act.put, List.setIfInBounds_toArray, List.set_cons_zero, List.set_cons_succ, i64_w, i32_w]; rfl
 refine pure_ (i := 3) (N := some 10) (v := ?_) (a' := ?_) (bitsL 10 13) rfl rfl (any_of HT_.out (by kernel_rfl)) (fun _ _ _ h => h) (Or.inl ⟨by rfl, ?_⟩) ?_ ?_; rotate_left
 ·intro w'; go_simp; with_reducible rfl
 rotate_left
 ·simp only [Act.put, List.setIfInBounds_toArray, List.set_cons_zero, List.set_cons_succ, i64_w, i32_w]; rfl
 refine pure_ (i := 4) (N := some 11) (v := ?_) (a' := ?_) (bitsL 10 29) rfl rfl (any_of HT_.out (by kernel_rfl)) (fun _ _ _ h => h) (Or.inl ⟨by rfl, ?_⟩) ?_ ?_; rotate_left
 ·intro w'; go_simp; with_reducible rfl
 rotate_left
 ·simp only [Act.put, List.setIfInBounds_toArray, List.set_cons_zero, List.set_cons_succ, i64_w, i32_w]; rfl
 refine pure_ (i := 6) (N := some 13) (v := ?_) (a' := ?_) (bitsL 10 93) rfl rfl (any_of HT_.out (by kernel_rfl)) (fun _ _ _ h => h) (Or.inl ⟨by rfl, ?_⟩) ?_ ?_; rotate_left
 ·intro w'; go_simp; with_reducible rfl
 rotate_left
 ·simp only [Act.put, List.setIfInBounds_toArray, List.set_cons_zero, List.set_cons_succ, i64_w, i32_w]; rfl
 refine take_ (i := 1) (N := some 8) (v := ?_) (a' := ?_) (bitsL 10 95) rfl rfl (take_ofW HT_.out HW_.out (by kernel_rfl)) (fun _ _ _ h => h) (Or.inl ⟨by rfl, ?_⟩) hHeld ?_ ?_; rotate_left
 ·rintro w' ⟨s0, s1⟩; go_simp; with_reducible rfl
 rotate_left
 ·simp only [Act.put, List.setIfInBounds_toArray, List.set_cons_zero, List.set_cons_succ, i64_w, i32_w]; rfl
 refine take_ (i := 7) (N := some 14) (v := ?_) (a' := ?_) (bitsL 10 223) rfl rfl (take_ofW HT_.out HW_.out (by kernel_rfl)) (fun _ _ _ h => h) (Or.inl ⟨by rfl, ?_⟩) hHeld ?_ ?_; rotate_left
 ·rintro w' ⟨s0, s1⟩; go_simp; with_reducible rfl
 rotate_left
 ·simp only [Act.put, List.setIfInBounds_toArray, List.set_cons_zero, List.set_cons_succ, i64_w, i32_w]; rfl
 refine one_ (i := 5) (N := some 12) (bitsL 10 255) rfl rfl (one_of HT_.out (by kernel_rfl)) (by decide) (fun K hK => ?_); refine goes_ Tryz.func59 (by kernel_rfl) rfl #[.slice A0_0 l0_0.length c0_0, .agg #[.string a1, .string a2]] (by rfl) rfl rfl am ?_; with_reducible refine (head_Put.calls _ _ l0_0 a1 a2 t617 _ ?side1 ?side2 A4.out).mono ?_
 (case side1 => repeat (first | exact (Kd.C_below HR0_0.out HB.out) | (with_reducible refine Kd.C_alloc ?_ _) | (with_reducible refine Kd.C_drewN ?_ _) | (with_reducible refine Kd.C_drew ?_)))
 (case side2 => exact HC0_0.out)
 rintro e w8 ⟨v618, rfl, ho0, hb⟩; refine ⟨_, rfl, ?_⟩; have n0_ := Aside0.mk (Kd.R_lower ho0 (below_size bwS)); have n1_ := Aside0.mk (blk_below (g := gb615) (o := .cells #[.slice A0_0 l0_0.length c0_0, .string a0_1] 25 (0, 0)) bk hb); have n2_ := Aside0.mk (blk_below (g := gb616) (o := .cells #[.slice none 0 0, .string (⟨#[]⟩ : ByteArray)] 25 (0, 0)) bk hb); have n3_ := Aside0.mk (below_step bwS hb); clear BK615 BK616 HB; have HO619 := n0_; have BK615 := n1_; have BK616 := n2_; have HB := n3_; clear n0_ n1_ n2_ n3_
 (try clear hb)
 (try clear hb2)
 (try clear hk)
 (try clear hi)
 (try clear ho0)
 obtain ⟨Ao9, co9, eo9⟩ := Kd.R_slice HO619.out
 (first | subst eo9 | (injection eo9 with f1_ f2_ f3_; have f4_ := f1_.symm; have f5_ := f3_.symm; clear f1_ f2_ f3_; subst f4_; subst f5_))
 refine hK.out _ _ ⟨(blk_cell BK615.out 0).trans rfl, (blk_cell BK615.out 1).trans rfl⟩ (fun hHeld => ?_); clear hK K; refine norm_ (a' := ?_) ?_ ?_; rotate_left
 ·show Act.put _ (some 12) _ = _
  simp only [Act.put, List.setIfInBounds_toArray, List.set_cons_zero, List.set_cons_succ, i64_w, i32_w]; rfl
 refine pure_ (i := 8) (N := some 15) (v := ?_) (a' := ?_) (bitsL 10 511) rfl rfl (any_of HT_.out (by kernel_rfl)) (fun _ _ _ h => h) (Or.inl ⟨by rfl, ?_⟩) ?_ ?_; rotate_left
 ·intro w'; go_simp; with_reducible rfl
 rotate_left
 ·simp only [Act.put, List.setIfInBounds_toArray, List.set_cons_zero, List.set_cons_succ, i64_w, i32_w]; rfl
 refine one_ (i := 9) (N := none) (bitsL 10 1023) rfl rfl (one_of HT_.out (by kernel_rfl)) (by decide) (fun K hK => ?_); have hs10 : w8.cell? ⟨gb616, 0, none⟩ = some (.slice none 0 0) := (blk_cell BK616.out 0).trans rfl; have hfs10 := blk_frozen BK616.out 0; have hns10_0 := NB615_616.out; have hms10_0 := NB616_615.out; have hs11 : w8.cell? ⟨gb616, 1, none⟩ = some (.string (⟨#[]⟩ : ByteArray)) := (blk_cell BK616.out 1).trans rfl; have hfs11 := blk_frozen BK616.out 1; have hns11_0 := NB615_616.out; have hms11_0 := NB616_615.out; refine skip_ (w1 := ?_) (by rfl) rfl ?_ ?_; rotate_left
 ·go_simp; rfl
 refine hK.out _ _ ⟨((cell_far (p := ⟨gb616, _, none⟩) NB615_616.out _).trans (((cell_far (p := ⟨gb616, _, none⟩) NB615_616.out _).trans (hHeld.1)))), ((cell_far (p := ⟨gb616, _, none⟩) NB615_616.out _).trans (((cell_far (p := ⟨gb616, _, none⟩) NB615_616.out _).trans (hHeld.2))))⟩ (fun hHeld => ?_); clear hK K; refine done_ (done_of HT_.out (by kernel_rfl)) ?_
 try go_wp2
 refine bodyPost_ret (results_cell_row rfl _ _ gb616 25 #[.slice Ao9 t617.length co9, .string a0_1] (0, 0) _ rfl (by (with_reducible repeat (first | refine blk_drewN ?_ _ | refine blk_drew ?_ | refine blk_alloc ?_ _)); refine blk_put (cs := #[.slice Ao9 t617.length co9, .string (⟨#[]⟩ : ByteArray)]) ?_ 1 _ rfl; (with_reducible repeat (first | refine blk_drewN ?_ _ | refine blk_drew ?_ | refine blk_alloc ?_ _)); exact blk_put (cs := #[.slice none 0 0, .string (⟨#[]⟩ : ByteArray)]) bk 0 _ rfl) Tryz.underlying25 rfl (by kernel_rfl)) rfl ?_; exact ⟨_, ew, by (with_reducible repeat (first | apply Kd.R_alloc | apply Kd.R_drewN | apply Kd.R_drew)); exact Kd.R_mono (Kd.R_far (p := ⟨gb616, 1, none⟩) (Kd.R_far (p := ⟨gb616, 0, none⟩) (Kd.R_types HO619.out BK616.out (by decide)) (fun _ hk => hk.2) (.slice Ao9 t617.length co9)) (fun _ hk => hk.2) (.string a0_1)) (fun _ hk => trivial), bwS⟩

end Go.Proofs.YtbjbpgmjijeppaaGreatDoor.Fn
