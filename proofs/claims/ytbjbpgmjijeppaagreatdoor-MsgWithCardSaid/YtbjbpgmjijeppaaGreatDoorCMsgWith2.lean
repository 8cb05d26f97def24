/- A part of the proof of this sentence: Any message with a field put is as the document has it, and the message itself is as it was; the tables of unicode/utf8 are as the program's text lays them. -/
import Derived.Test.YtbjbpgmjijeppaaGreatDoorCMsgWith1
namespace Go.Proofs.YtbjbpgmjijeppaaGreatDoor.Fn
open Go.RowKit Go.Proofs.YtbjbpgmjijeppaaGreatDoorW.PrintWords Go.Proofs.YtbjbpgmjijeppaaGreatDoorW.PrintLast Go.Proofs.YtbjbpgmjijeppaaGreatDoorW.PrintMore
attribute [local go_sem] max2_int min2_int max_two min_two max_three min_three max_four min_four
set_option linter.unusedVariables false
set_option linter.unusedSimpArgs false

mutual
def addr_joined.l0 : Nat → List (S160) → Bool → ByteArray → Option (ByteArray × (List (S160)) × Bool)
 | 0, _, _, _ => none
 | k + 1, x0, x1, x7 => if (x0.length : Int) = 0 then (addr_joined.j1 k x0 x1 x7 true) else (if 0 < (x0.length : Int) then (if ((rd_T160 x0 0).f0) = 3 then (addr_joined.j1 k x0 x1 x7 true) else (if x1 = true then (addr_joined.j1 k x0 x1 x7 (((rd_T160 x0 0).f0) != 1)) else (addr_joined.j1 k x0 x1 x7 false))) else (none))
def addr_joined.j1 : Nat → List (S160) → Bool → ByteArray → Bool → Option (ByteArray × (List (S160)) × Bool)
 | 0, _, _, _, _ => none
 | k + 1, x0, x1, x7, x27 => if x27 = true then (some ((⟨#[]⟩ : ByteArray), ([] : List (S160)), false)) else (if 0 < (x0.length : Int) then (if x7.size + ((rd_T160 x0 0).f1).size ≤ 9223372036854775807 then (if 1 ≤ (x0.length : Int) then ((some (x0.drop 1 : List (S160))).bind fun y212 => ((addr_is.f y212 (⟨#[46]⟩ : ByteArray)).bind fun t217 => (if t217 = true then (if (x7 ++ ((rd_T160 x0 0).f1)).size + 1 ≤ 9223372036854775807 then (if 1 ≤ (y212.length : Int) then (addr_joined.l0 k (y212.drop 1) x1 ((x7 ++ ((rd_T160 x0 0).f1)) ++ (⟨#[46]⟩ : ByteArray))) else (none)) else (none)) else (some (x7 ++ ((rd_T160 x0 0).f1), y212, true))))) else (none)) else (none)) else (none))
end
def addr_joined.f (k : Nat) (l0 : List (S160)) (a1 : Bool) : Option (ByteArray × (List (S160)) × Bool) := addr_joined.l0 k l0 a1 (⟨#[]⟩ : ByteArray)
set_option maxHeartbeats 8000000 in
set_option maxRecDepth 100000 in
theorem addr_joined.calls (k : Nat) (P0_ : Nat → Prop) (A0 : Option Addr) (c0 : Nat) (l0 : List (S160)) (a1 : Bool) (r1 : ByteArray) (r2 : List (S160)) (r3 : Bool) (w : World) (hs0 : Kd.V k160 160 w w.heap.size (fun k_ => P0_ k_) (.slice A0 l0.length c0) l0) (h : addr_joined.f k l0 a1 = some (r1, r2, r3)) :
  Calls Tryz.prog 153 #[.slice A0 l0.length c0, .bool a1] w fun e w' => ∃ v1_ : Value, e = .returned (.tuple #[.string r1, v1_, .bool r3]) ∧ Kd.V k160 160 w' w.heap.size (fun k_ => (P0_ k_ ∨ w.heap.size ≤ k_)) v1_ r2 ∧ Below w.heap.size w w' := by
 have HO0 := Aside0.mk (show Kd.V k160 160 w w.heap.size (fun k_ => (P0_ k_ ∨ w.heap.size ≤ k_)) (.slice A0 l0.length c0) l0 from Kd.V_mono hs0 (fun k_ hk => .inl hk)); have HB := Aside0.mk (Below.refl w.heap.size w); have H : (addr_joined.l0 k l0 a1 (⟨#[]⟩ : ByteArray)) = some (r1, r2, r3) := h; clear h; have H' := Aside0.mk H; clear H
 go_enter Tryz.func153, Tryz.ntmps153
 go_wp2
 go_loopg [0, 7] k (fun kq v0 v7 w' => ∃ (x0_1 : List (S160)) (x7_1 : ByteArray), v7 = .string x7_1 ∧ Aside0 (addr_joined.l0 kq x0_1 a1 x7_1 = some (r1, r2, r3)) ∧ Aside0 (kq ≤ k) ∧ Aside0 (Kd.V k160 160 w' w.heap.size (fun k_ => (P0_ k_ ∨ w.heap.size ≤ k_)) v0 x0_1) ∧ Aside0 (Below w.heap.size w w'))
 case atStart => exact ⟨(l0), ((⟨#[]⟩ : ByteArray)), cl, H', ⟨Nat.le_refl _⟩, ⟨by (with_reducible repeat (first | apply Kd.V_alloc | apply Kd.V_drewN | apply Kd.V_drew)); exact HO0.out⟩, ⟨bw⟩⟩
 case round =>
  clear H'
  try clear c1
  try clear p2
  obtain ⟨x0_1, x7_1, rfl, HA, HK1, HO_0, HB⟩ := hrel; cases gk with
  | zero => exact absurd HA.out (by simp [addr_joined.l0])
  | succ k1 =>
   have H := HA.out; clear HA; simp only [addr_joined.l0] at H; have HC3 := Aside0.mk H; clear H
   go_upto_region 2 with (fail)
   go_cut [27] (fun v27 wc => ∃ (kq : Nat) (x27_2 : Bool), v27 = .bool x27_2 ∧ Aside0 (addr_joined.j1 kq x0_1 a1 x7_1 x27_2 = some (r1, r2, r3)) ∧ Aside0 (kq ≤ k1) ∧ Aside0 (Kd.V k160 160 wc w.heap.size (fun k_ => (P0_ k_ ∨ w.heap.size ≤ k_)) u0 x0_1) ∧ Aside0 (Below w.heap.size w wc))
   case first =>
    have H := HC3.out; clear HC3
    by_cases c4 : (x0_1.length : Int) = 0
    ·rw [if_pos c4] at H; have c4b0 : ((x0_1.length : Int) == 0) = true := beq_iff_eq.mpr c4; have c4b1 : ((x0_1.length : Int) != 0) = false := bne_eq_false_iff_eq.mpr c4; clear c4
     (first | rw [c4b0] | (simp only [i64_w, i32_w]; rw [c4b0]) | skip)
     have H' := Aside0.mk H; clear H; obtain ⟨Ao5, co5, eo5⟩ := Kd.V_slice HO_0.out; subst eo5
     go_wp2
     go_meet
     case rel => exact ⟨_, (true), cl, H', ⟨by have := HK1.out; first | omega | exact Nat.le_refl _⟩, ⟨by (with_reducible repeat (first | apply Kd.V_alloc | apply Kd.V_drewN | apply Kd.V_drew)); exact HO_0.out⟩, ⟨bw⟩⟩
    ·rw [if_neg c4] at H; have c4b0 : ((x0_1.length : Int) == 0) = false := beq_eq_false_iff_ne.mpr c4; have c4b1 : ((x0_1.length : Int) != 0) = true := bne_iff_ne.mpr c4; have c4b2 : ¬ (x0_1 = []) := fun h_ => c4 (by rw [h_]; rfl)
     (first | rw [c4b0] | (simp only [i64_w, i32_w]; rw [c4b0]) | skip)
     by_cases c6 : 0 < (x0_1.length : Int)
     ·rw [if_pos c6] at H; have c6b0 : decide (0 < (x0_1.length : Int)) = true := decide_eq_true c6; have c6b1 : decide (0 < x0_1.length) = true := decide_eq_true (by omega); clear c6
      by_cases c7 : ((rd_T160 x0_1 0).f0) = 3
      ·rw [if_pos c7] at H; have c7b0 : (((rd_T160 x0_1 0).f0) == 3) = true := beq_iff_eq.mpr c7; have c7b1 : (((rd_T160 x0_1 0).f0) != 3) = false := bne_eq_false_iff_eq.mpr c7; clear c7; have H' := Aside0.mk H; clear H; obtain ⟨Ao8, co8, eo8⟩ := Kd.V_slice HO_0.out; subst eo8; have p209 : 0 ≤ (0 : Int) := (by omega)
       have q209 : 0 < (x0_1.length : Int) := od; obtain ⟨ad209, e209, hx209_0, hx209_1⟩ := at_T160 (Kd.V_reads' HO_0.out).2.2 0 p209 q209; cases e209; have qi209 : (0 < x0_1.length) = True := eq_true (by omega)
       (try rw [show ((0 : Int)).toNat = 0 from rfl] at hx209_0)
       (try rw [show 0 * 2 = 0 from rfl] at hx209_0)
       (try rw [Addr.add_zero'] at hx209_0)
       (try rw [show ((0 : Int)).toNat = 0 from rfl] at hx209_1)
       (try rw [show 0 * 2 = 0 from rfl] at hx209_1)
       (try rw [Addr.add_zero'] at hx209_1)
       replace p209 := eq_true p209; replace q209 := eq_true q209
       go_wp2
       go_meet
       case rel => exact ⟨_, (true), cl, H', ⟨by have := HK1.out; first | omega | exact Nat.le_refl _⟩, ⟨by (with_reducible repeat (first | apply Kd.V_alloc | apply Kd.V_drewN | apply Kd.V_drew)); exact HO_0.out⟩, ⟨bw⟩⟩
      ·rw [if_neg c7] at H; have c7b0 : (((rd_T160 x0_1 0).f0) == 3) = false := beq_eq_false_iff_ne.mpr c7; have c7b1 : (((rd_T160 x0_1 0).f0) != 3) = true := bne_iff_ne.mpr c7
       by_cases c9 : a1 = true
       ·subst c9; have H1 : (addr_joined.j1 k1 x0_1 true x7_1 (((rd_T160 x0_1 0).f0) != 1)) = some (r1, r2, r3) := by rw [if_pos rfl] at H; exact H
        clear H; have H := H1; clear H1; have H' := Aside0.mk H; clear H; obtain ⟨Ao10, co10, eo10⟩ := Kd.V_slice HO_0.out; subst eo10; have p209 : 0 ≤ (0 : Int) := (by omega)
        have q209 : 0 < (x0_1.length : Int) := od; obtain ⟨ad209, e209, hx209_0, hx209_1⟩ := at_T160 (Kd.V_reads' HO_0.out).2.2 0 p209 q209; cases e209; have qi209 : (0 < x0_1.length) = True := eq_true (by omega)
        (try rw [show ((0 : Int)).toNat = 0 from rfl] at hx209_0)
        (try rw [show 0 * 2 = 0 from rfl] at hx209_0)
        (try rw [Addr.add_zero'] at hx209_0)
        (try rw [show ((0 : Int)).toNat = 0 from rfl] at hx209_1)
        (try rw [show 0 * 2 = 0 from rfl] at hx209_1)
        (try rw [Addr.add_zero'] at hx209_1)
        replace p209 := eq_true p209; replace q209 := eq_true q209; have p210 : 0 ≤ (0 : Int) := (by omega)
        have q210 : 0 < (x0_1.length : Int) := od; obtain ⟨ad210, e210, hx210_0, hx210_1⟩ := at_T160 (Kd.V_reads' HO_0.out).2.2 0 p210 q210; obtain rfl : ad209 = ad210 := (by injection e210)
        have qi210 : (0 < x0_1.length) = True := eq_true (by omega)
        (try rw [show ((0 : Int)).toNat = 0 from rfl] at hx210_0)
        (try rw [show 0 * 2 = 0 from rfl] at hx210_0)
        (try rw [Addr.add_zero'] at hx210_0)
        (try rw [show ((0 : Int)).toNat = 0 from rfl] at hx210_1)
        (try rw [show 0 * 2 = 0 from rfl] at hx210_1)
        (try rw [Addr.add_zero'] at hx210_1)
        replace p210 := eq_true p210; replace q210 := eq_true q210
        go_wp2
        go_meet
        case rel => exact ⟨_, ((((rd_T160 x0_1 0).f0) != 1)), cl, H', ⟨by have := HK1.out; first | omega | exact Nat.le_refl _⟩, ⟨by (with_reducible repeat (first | apply Kd.V_alloc | apply Kd.V_drewN | apply Kd.V_drew)); exact HO_0.out⟩, ⟨bw⟩⟩
       ·replace c9 := Bool.eq_false_iff.mpr c9; subst c9; have H1 : (addr_joined.j1 k1 x0_1 false x7_1 false) = some (r1, r2, r3) := by rw [if_neg (show ¬ (false = true) by decide)] at H; exact H
        clear H; have H := H1; clear H1; have H' := Aside0.mk H; clear H; obtain ⟨Ao11, co11, eo11⟩ := Kd.V_slice HO_0.out; subst eo11; have p209 : 0 ≤ (0 : Int) := (by omega)
        have q209 : 0 < (x0_1.length : Int) := od; obtain ⟨ad209, e209, hx209_0, hx209_1⟩ := at_T160 (Kd.V_reads' HO_0.out).2.2 0 p209 q209; cases e209; have qi209 : (0 < x0_1.length) = True := eq_true (by omega)
        (try rw [show ((0 : Int)).toNat = 0 from rfl] at hx209_0)
        (try rw [show 0 * 2 = 0 from rfl] at hx209_0)
        (try rw [Addr.add_zero'] at hx209_0)
        (try rw [show ((0 : Int)).toNat = 0 from rfl] at hx209_1)
        (try rw [show 0 * 2 = 0 from rfl] at hx209_1)
        (try rw [Addr.add_zero'] at hx209_1)
        replace p209 := eq_true p209; replace q209 := eq_true q209
        go_wp2
        go_meet
        case rel => exact ⟨_, (false), cl, H', ⟨by have := HK1.out; first | omega | exact Nat.le_refl _⟩, ⟨by (with_reducible repeat (first | apply Kd.V_alloc | apply Kd.V_drewN | apply Kd.V_drew)); exact HO_0.out⟩, ⟨bw⟩⟩
     ·rw [if_neg c6] at H; exact absurd H (by simp)
   case rest =>
    clear HC3
    try clear c1
    try clear p2
    try clear q2
    try clear hx2
    try clear qi2
    try clear c4
    try clear c4b0
    try clear c4b1
    try clear c4b2
    try clear c6
    try clear c6b0
    try clear c6b1
    try clear c7
    try clear c7b0
    try clear c7b1
    try clear c9
    try clear hx209_0
    try clear hx209_1
    try clear hx210_0
    try clear hx210_1
    try clear p2
    try clear p209
    try clear p210
    try clear q209
    try clear q210
    obtain ⟨kq, x27_2, rfl, HA, HJ2, HO_0, HB⟩ := hcut; cases kq with
    | zero => exact absurd HA.out (by simp [addr_joined.j1])
    | succ kj2 =>
     have H := HA.out; clear HA; simp only [addr_joined.j1] at H
     by_cases c12 : x27_2 = true
     ·subst c12; have H1 : (some ((⟨#[]⟩ : ByteArray), ([] : List (S160)), false)) = some (r1, r2, r3) := by rw [if_pos rfl] at H; exact H
      clear H; have H := H1; clear H1; simp only [Option.some.injEq, Prod.mk.injEq] at H; obtain ⟨rfl, rfl, rfl⟩ := H
      go_wp2
      go_ret3
      exact ⟨_, ew, (by first | exact Kd.V_nil _ _ _ _ _ | exact Kd.V_mono (Kd.R_V (by first | exact Kd.R_nil _ _ _ _ _ | exact Kd.N_nil _ _ _ _ _ | exact Kd.V_nil _ _ _ _ _ | exact Kd.Q_nil _ _ _ _ _ | exact Kd.S_nil _ _ _ _ _)) (fun k_ hk => by first | exact ⟨(.inr (hk.1)), hk.2⟩ | exact (.inr (hk)))), bw⟩
     ·replace c12 := Bool.eq_false_iff.mpr c12; subst c12; have H1 : (if 0 < (x0_1.length : Int) then (if x7_1.size + ((rd_T160 x0_1 0).f1).size ≤ 9223372036854775807 then (if 1 ≤ (x0_1.length : Int) then ((some (x0_1.drop 1 : List (S160))).bind fun y212 => ((addr_is.f y212 (⟨#[46]⟩ : ByteArray)).bind fun t217 => (if t217 = true then (if (x7_1 ++ ((rd_T160 x0_1 0).f1)).size + 1 ≤ 9223372036854775807 then (if 1 ≤ (y212.length : Int) then (addr_joined.l0 kj2 (y212.drop 1) a1 ((x7_1 ++ ((rd_T160 x0_1 0).f1)) ++ (⟨#[46]⟩ : ByteArray))) else (none)) else (none)) else (some (x7_1 ++ ((rd_T160 x0_1 0).f1), y212, true))))) else (none)) else (none)) else (none)) = some (r1, r2, r3) := by rw [if_neg (show ¬ (false = true) by decide)] at H; exact H
      clear H; have H := H1; clear H1
      by_cases c13 : 0 < (x0_1.length : Int)
      ·rw [if_pos c13] at H; have c13b0 : decide (0 < (x0_1.length : Int)) = true := decide_eq_true c13; have c13b1 : decide (0 < x0_1.length) = true := decide_eq_true (by omega); clear c13
       by_cases c14 : x7_1.size + ((rd_T160 x0_1 0).f1).size ≤ 9223372036854775807
       ·rw [if_pos c14] at H; have c14b0 := eq_true c14; have c14b1 : decide (x7_1.size + ((rd_T160 x0_1 0).f1).size ≤ 9223372036854775807) = true := decide_eq_true c14
        try have c14b2 : (9223372036854775807 < x7_1.size + ((rd_T160 x0_1 0).f1).size) = False := eq_false (Nat.not_lt.2 c14)
        by_cases c15 : 1 ≤ (x0_1.length : Int)
        ·rw [if_pos c15] at H; have c15b0 := eq_true c15; have c15b1 : decide (1 ≤ (x0_1.length : Int)) = true := decide_eq_true c15; clear c15; obtain ⟨y212, hy212⟩ : ∃ y_ : List (S160), y_ = (x0_1.drop 1) := ⟨_, rfl⟩
         replace H : ((addr_is.f y212 (⟨#[46]⟩ : ByteArray)).bind fun t217 => (if t217 = true then (if (x7_1 ++ ((rd_T160 x0_1 0).f1)).size + 1 ≤ 9223372036854775807 then (if 1 ≤ (y212.length : Int) then (addr_joined.l0 kj2 (y212.drop 1) a1 ((x7_1 ++ ((rd_T160 x0_1 0).f1)) ++ (⟨#[46]⟩ : ByteArray))) else (none)) else (none)) else (some (x7_1 ++ ((rd_T160 x0_1 0).f1), y212, true)))) = some (r1, r2, r3) := by first | (rw [hy212]; with_reducible exact H) | (have H2_ := (Option.bind_some _ _).symm.trans H; rw [hy212]; with_reducible exact H2_) | (have H2_ := (Option.bind_some _ _).symm.trans H; with_reducible exact H2_) | with_reducible exact H | (rw [hy212]; exact H) | exact H
         have Ny212 := Aside0.mk hy212; clear hy212; replace H := Option.bind_eq_some_iff.mp H; obtain ⟨t217, A160, H⟩ := H; replace H : (if t217 = true then (if (x7_1 ++ ((rd_T160 x0_1 0).f1)).size + 1 ≤ 9223372036854775807 then (if 1 ≤ (y212.length : Int) then (addr_joined.l0 kj2 (y212.drop 1) a1 ((x7_1 ++ ((rd_T160 x0_1 0).f1)) ++ (⟨#[46]⟩ : ByteArray))) else (none)) else (none)) else (some (x7_1 ++ ((rd_T160 x0_1 0).f1), y212, true))) = some (r1, r2, r3) := H; have A16 := Aside0.mk A160; clear A160
         by_cases c17 : t217 = true
         ·subst c17; have H1 : (if (x7_1 ++ ((rd_T160 x0_1 0).f1)).size + 1 ≤ 9223372036854775807 then (if 1 ≤ (y212.length : Int) then (addr_joined.l0 kj2 (y212.drop 1) a1 ((x7_1 ++ ((rd_T160 x0_1 0).f1)) ++ (⟨#[46]⟩ : ByteArray))) else (none)) else (none)) = some (r1, r2, r3) := by rw [if_pos rfl] at H; exact H
          clear H; have H := H1; clear H1
          by_cases c18 : (x7_1 ++ ((rd_T160 x0_1 0).f1)).size + 1 ≤ 9223372036854775807
          ·rw [if_pos c18] at H; have c18b0 := eq_true c18; have c18b1 : decide ((x7_1 ++ ((rd_T160 x0_1 0).f1)).size + 1 ≤ 9223372036854775807) = true := decide_eq_true c18
           try have c18b2 : (9223372036854775807 < (x7_1 ++ ((rd_T160 x0_1 0).f1)).size + 1) = False := eq_false (Nat.not_lt.2 c18)
           try (have c18b3 := c18; simp only [ByteArray.size_append, size_lit, ByteArray.size_extract, List.size_toArray, List.length_cons, List.length_nil, Nat.zero_add, Nat.reduceAdd] at c18b3; have c18b4 := eq_false (Nat.not_lt.2 c18b3))
           by_cases c19 : 1 ≤ (y212.length : Int)
           ·rw [if_pos c19] at H; have c19b0 := eq_true c19; have c19b1 : decide (1 ≤ (y212.length : Int)) = true := decide_eq_true c19; clear c19; obtain ⟨y218, hy218⟩ : ∃ y_ : List (S160), y_ = (y212.drop 1) := ⟨_, rfl⟩
            replace H : (addr_joined.l0 kj2 y218 a1 ((x7_1 ++ ((rd_T160 x0_1 0).f1)) ++ (⟨#[46]⟩ : ByteArray))) = some (r1, r2, r3) := by first | (rw [hy218]; with_reducible exact H) | (have H2_ := (Option.bind_some _ _).symm.trans H; rw [hy218]; with_reducible exact H2_) | (have H2_ := (Option.bind_some _ _).symm.trans H; with_reducible exact H2_) | with_reducible exact H | (rw [hy218]; exact H) | exact H
            have Ny218 := Aside0.mk hy218; clear hy218; have H' := Aside0.mk H; clear H; obtain ⟨Ao20, co20, eo20⟩ := Kd.V_slice HO_0.out; subst eo20; have p211 : 0 ≤ (0 : Int) := (by omega)
            have q211 : 0 < (x0_1.length : Int) := od; obtain ⟨ad211, e211, hx211_0, hx211_1⟩ := at_T160 (Kd.V_reads' HO_0.out).2.2 0 p211 q211; cases e211; have qi211 : (0 < x0_1.length) = True := eq_true (by omega)
            (try rw [show ((0 : Int)).toNat = 0 from rfl] at hx211_0)
            (try rw [show 0 * 2 = 0 from rfl] at hx211_0)
            (try rw [Addr.add_zero'] at hx211_0)
            (try rw [show ((0 : Int)).toNat = 0 from rfl] at hx211_1)
            (try rw [show 0 * 2 = 0 from rfl] at hx211_1)
            (try rw [Addr.add_zero'] at hx211_1)
            replace p211 := eq_true p211; replace q211 := eq_true q211; have q21 : (1 : Int) ≤ ((x0_1.length : Int) : Int) := od; obtain ⟨i021, hi021, _, hsz21, _⟩ := info_parts info160; have hroom21 : x0_1.length ≤ co20 := (Kd.V_reads' HO_0.out).2.1; have hC21 : Kd.F k160 _ _ (some ad211) x0_1.length x0_1 := (Kd.V_at (base := w.heap.size) HO_0.out).2.2; have hcut21 := cut_from (P := Tryz.prog) 141 160 .i64 Tryz.underlying141 hi021 2 hsz21 (some ad211) x0_1.length co20 1 (by omega) q21; have hr21 := Kd.F_cut (m := (1 : Int).toNat) (c := co20) hC21 (by omega) hroom21; obtain ⟨A21, hA21⟩ : ∃ A1, A1 = (if co20 = (1 : Int).toNat then (some ad211) else ((some ad211) : Option Addr).map (·.add ((1 : Int).toNat * 2))) := ⟨_, rfl⟩
            obtain ⟨c21, hc21⟩ : ∃ c1, c1 = co20 - (1 : Int).toNat := ⟨_, rfl⟩
            have hy21 : y212.length = x0_1.length - (1 : Int).toNat := (by rw [Ny212.out, List.length_drop] <;> omega)
            rw [show (x0_1).drop (1 : Int).toNat = y212 from Ny212.out.symm] at hr21; replace hr21 : Kd.F k160 _ _ A21 y212.length y212 := (by rw [hA21]; exact hr21)
            rw [← hy21, ← hA21, ← hc21] at hcut21; have HO216 := Aside0.mk (show Kd.V k160 160 _ w.heap.size _ (.slice A21 y212.length c21) y212 from Kd.V_mk (by rw [hy21, hc21]; exact Nat.sub_le_sub_right hroom21 _) hr21); have HC216 := Aside0.mk (show y212.length ≤ c21 from by rw [hy21, hc21]; exact Nat.sub_le_sub_right hroom21 _); clear hr21 hC21 hroom21 hi021 hsz21 hc21; have KY21 := Aside0.mk hy21; have KA21 := Aside0.mk hA21; clear hy21 hA21; replace q21 := eq_true q21
            go_wp2_with (first | ((with_reducible refine gate_callee (f := 154) rfl ?_); refine goesL_ (some 37) rfl rfl Tryz.func154 (by kernel_rfl) rfl #[.slice A21 y212.length c21, .string (⟨#[46]⟩ : ByteArray)] rfl am ?_; (with_reducible refine (addr_is.calls _ _ y212 (⟨#[46]⟩ : ByteArray) true _ ?side1 ?side2 A16.out).mono ?_); (case side1 => repeat (first | exact (Kd.V_reads' HO216.out).2.2 | (with_reducible refine Kd.C_alloc ?_ _) | (with_reducible refine Kd.C_drewN ?_ _) | (with_reducible refine Kd.C_drew ?_))); (case side2 => exact (Kd.V_reads' HO216.out).2.1); rintro e w' ⟨rfl, ⟨nd, rfl⟩⟩; refine ⟨_, rfl, ?_⟩; have q22 : (1 : Int) ≤ ((y212.length : Int) : Int) := od; obtain ⟨i022, hi022, _, hsz22, _⟩ := info_parts info160; have hroom22 : y212.length ≤ c21 := (Kd.V_reads' HO216.out).2.1; have hC22 : Kd.F k160 _ _ A21 y212.length y212 := (Kd.V_at (base := w.heap.size) HO216.out).2.2; have hcut22 := cut_from (P := Tryz.prog) 141 160 .i64 Tryz.underlying141 hi022 2 hsz22 A21 y212.length c21 1 (by omega) q22; have hr22 := Kd.F_cut (m := (1 : Int).toNat) (c := c21) hC22 (by omega) hroom22; obtain ⟨A22, hA22⟩ : ∃ A1, A1 = (if c21 = (1 : Int).toNat then A21 else (A21 : Option Addr).map (·.add ((1 : Int).toNat * 2))) := ⟨_, rfl⟩; obtain ⟨c22, hc22⟩ : ∃ c1, c1 = c21 - (1 : Int).toNat := ⟨_, rfl⟩; have hy22 : y218.length = y212.length - (1 : Int).toNat := (by rw [Ny218.out, List.length_drop] <;> omega); rw [show (y212).drop (1 : Int).toNat = y218 from Ny218.out.symm] at hr22; replace hr22 : Kd.F k160 _ _ A22 y218.length y218 := (by rw [hA22]; exact hr22); rw [← hy22, ← hA22, ← hc22] at hcut22; have HO222 := Aside0.mk (show Kd.V k160 160 _ w.heap.size _ (.slice A22 y218.length c22) y218 from Kd.V_mk (by rw [hy22, hc22]; exact Nat.sub_le_sub_right hroom22 _) hr22); have HC222 := Aside0.mk (show y218.length ≤ c22 from by rw [hy22, hc22]; exact Nat.sub_le_sub_right hroom22 _); clear hr22 hC22 hroom22 hi022 hsz22 hc22; have KY22 := Aside0.mk hy22; have KA22 := Aside0.mk hA22; clear hy22 hA22; replace q22 := eq_true q22))
            go_roundg kj2
            case measure => have := HK1.out; have := HJ2.out; omega
            case rel => exact ⟨(y218), ((x7_1 ++ ((rd_T160 x0_1 0).f1)) ++ (⟨#[46]⟩ : ByteArray)), cl, H', ⟨by have := HK1.out; have := HJ2.out; omega⟩, ⟨by (with_reducible repeat (first | apply Kd.V_alloc | apply Kd.V_drewN | apply Kd.V_drew)); exact HO222.out⟩, ⟨bw⟩⟩
           ·rw [if_neg c19] at H; exact absurd H (by simp)
          ·rw [if_neg c18] at H; exact absurd H (by simp)
         ·replace c17 := Bool.eq_false_iff.mpr c17; subst c17; have H1 : (some (x7_1 ++ ((rd_T160 x0_1 0).f1), y212, true)) = some (r1, r2, r3) := by rw [if_neg (show ¬ (false = true) by decide)] at H; exact H
          clear H; have H := H1; clear H1; simp only [Option.some.injEq, Prod.mk.injEq] at H; obtain ⟨rfl, rfl, rfl⟩ := H; obtain ⟨Ao23, co23, eo23⟩ := Kd.V_slice HO_0.out; subst eo23; have p211 : 0 ≤ (0 : Int) := (by omega)
          have q211 : 0 < (x0_1.length : Int) := od; obtain ⟨ad211, e211, hx211_0, hx211_1⟩ := at_T160 (Kd.V_reads' HO_0.out).2.2 0 p211 q211; cases e211; have qi211 : (0 < x0_1.length) = True := eq_true (by omega)
          (try rw [show ((0 : Int)).toNat = 0 from rfl] at hx211_0)
          (try rw [show 0 * 2 = 0 from rfl] at hx211_0)
          (try rw [Addr.add_zero'] at hx211_0)
          (try rw [show ((0 : Int)).toNat = 0 from rfl] at hx211_1)
          (try rw [show 0 * 2 = 0 from rfl] at hx211_1)
          (try rw [Addr.add_zero'] at hx211_1)
          replace p211 := eq_true p211; replace q211 := eq_true q211; have q24 : (1 : Int) ≤ ((x0_1.length : Int) : Int) := od; obtain ⟨i024, hi024, _, hsz24, _⟩ := info_parts info160; have hroom24 : x0_1.length ≤ co23 := (Kd.V_reads' HO_0.out).2.1; have hC24 : Kd.F k160 _ _ (some ad211) x0_1.length x0_1 := (Kd.V_at (base := w.heap.size) HO_0.out).2.2; have hcut24 := cut_from (P := Tryz.prog) 141 160 .i64 Tryz.underlying141 hi024 2 hsz24 (some ad211) x0_1.length co23 1 (by omega) q24; have hr24 := Kd.F_cut (m := (1 : Int).toNat) (c := co23) hC24 (by omega) hroom24; obtain ⟨A24, hA24⟩ : ∃ A1, A1 = (if co23 = (1 : Int).toNat then (some ad211) else ((some ad211) : Option Addr).map (·.add ((1 : Int).toNat * 2))) := ⟨_, rfl⟩
          obtain ⟨c24, hc24⟩ : ∃ c1, c1 = co23 - (1 : Int).toNat := ⟨_, rfl⟩
          have hy24 : y212.length = x0_1.length - (1 : Int).toNat := (by rw [Ny212.out, List.length_drop] <;> omega)
          rw [show (x0_1).drop (1 : Int).toNat = y212 from Ny212.out.symm] at hr24; replace hr24 : Kd.F k160 _ _ A24 y212.length y212 := (by rw [hA24]; exact hr24)
          rw [← hy24, ← hA24, ← hc24] at hcut24; have HO216 := Aside0.mk (show Kd.V k160 160 _ w.heap.size _ (.slice A24 y212.length c24) y212 from Kd.V_mk (by rw [hy24, hc24]; exact Nat.sub_le_sub_right hroom24 _) hr24); have HC216 := Aside0.mk (show y212.length ≤ c24 from by rw [hy24, hc24]; exact Nat.sub_le_sub_right hroom24 _); clear hr24 hC24 hroom24 hi024 hsz24 hc24; have KY24 := Aside0.mk hy24; have KA24 := Aside0.mk hA24; clear hy24 hA24; replace q24 := eq_true q24
          go_wp2_with (first | ((with_reducible refine gate_callee (f := 154) rfl ?_); refine goesL_ (some 37) rfl rfl Tryz.func154 (by kernel_rfl) rfl #[.slice A24 y212.length c24, .string (⟨#[46]⟩ : ByteArray)] rfl am ?_; (with_reducible refine (addr_is.calls _ _ y212 (⟨#[46]⟩ : ByteArray) false _ ?side1 ?side2 A16.out).mono ?_); (case side1 => repeat (first | exact (Kd.V_reads' HO216.out).2.2 | (with_reducible refine Kd.C_alloc ?_ _) | (with_reducible refine Kd.C_drewN ?_ _) | (with_reducible refine Kd.C_drew ?_))); (case side2 => exact (Kd.V_reads' HO216.out).2.1); rintro e w' ⟨rfl, ⟨nd, rfl⟩⟩; refine ⟨_, rfl, ?_⟩))
          go_ret3
          exact ⟨_, ew, by (with_reducible repeat (first | apply Kd.V_alloc | apply Kd.V_drewN | apply Kd.V_drew)); exact HO216.out, bw⟩
        ·rw [if_neg c15] at H; exact absurd H (by simp)
       ·rw [if_neg c14] at H; exact absurd H (by simp)
      ·rw [if_neg c13] at H; exact absurd H (by simp)

end Go.Proofs.YtbjbpgmjijeppaaGreatDoor.Fn
namespace Go.Proofs.YtbjbpgmjijeppaaGreatDoor.Fn
open Go.RowKit Go.Proofs.YtbjbpgmjijeppaaGreatDoorW.PrintWords Go.Proofs.YtbjbpgmjijeppaaGreatDoorW.PrintLast Go.Proofs.YtbjbpgmjijeppaaGreatDoorW.PrintMore
attribute [local go_sem] max2_int min2_int max_two min_two max_three min_three max_four min_four
set_option linter.unusedVariables false
set_option linter.unusedSimpArgs false

def lex_escaped.f (a0 : ByteArray) : Option (Int) := if a0.toList = ([] : List UInt8) then (some 9) else (if 0 < (a0.size : Int) then ((lex_text.f (bt a0 0)).bind fun t154 => (if t154 = true then (some 0) else (some 3))) else (none))
set_option maxHeartbeats 8000000 in
set_option maxRecDepth 100000 in
theorem lex_escaped.calls (a0 : ByteArray) (r : Int) (w : World) (h : lex_escaped.f a0 = some r) :
  Calls Tryz.prog 145 #[.string a0] w fun e w' => e = .returned (.int .i64 r) ∧ Drawn0 w w' := by
 have H : (if a0.toList = ([] : List UInt8) then (some 9) else (if 0 < (a0.size : Int) then ((lex_text.f (bt a0 0)).bind fun t154 => (if t154 = true then (some 0) else (some 3))) else (none))) = some r := h; clear h
 by_cases c2 : a0.toList = ([] : List UInt8)
 ·rw [if_pos c2] at H; have c2b0 : (a0.toList == ([] : List UInt8)) = true := beq_iff_eq.mpr c2; have c2b1 : (a0.toList != ([] : List UInt8)) = false := bne_eq_false_iff_eq.mpr c2; clear c2; obtain rfl := Option.some.inj H
  go_enter Tryz.func145, Tryz.ntmps145
  go_wp2
  go_ret
  exact ⟨cl, d0⟩
 ·rw [if_neg c2] at H; have c2b0 : (a0.toList == ([] : List UInt8)) = false := beq_eq_false_iff_ne.mpr c2; have c2b1 : (a0.toList != ([] : List UInt8)) = true := bne_iff_ne.mpr c2
  by_cases c3 : 0 < (a0.size : Int)
  ·rw [if_pos c3] at H; have c3b0 : decide (0 < (a0.size : Int)) = true := decide_eq_true c3; have c3b1 : decide (0 < a0.size) = true := decide_eq_true (by omega); clear c3; replace H := Option.bind_eq_some_iff.mp H; obtain ⟨t154, A50, H⟩ := H; replace H : (if t154 = true then (some 0) else (some 3)) = some r := H; have A5 := Aside0.mk A50; clear A50
   by_cases c6 : t154 = true
   ·subst c6; have H1 : (some 0) = some r := by rw [if_pos rfl] at H; exact H
    clear H; have H := H1; clear H1; obtain rfl := Option.some.inj H; have p4 : 0 ≤ (0 : Int) := (by omega)
    have q4 : 0 < a0.size := (by have : (0 : Int) < (a0.size : Int) := od; omega)
    have hx4 : ∀ h : 0 < a0.size, ((a0[0]'h).toNat : Int) = bt a0 0 := bt_at a0 0; clear p4; have qi4 : (0 < (a0.size : Int)) = True := eq_true (od); replace q4 := eq_true q4
    go_enter Tryz.func145, Tryz.ntmps145
    go_wp2_with (first | ((with_reducible refine gate_callee (f := 146) rfl ?_); refine goesL_ (some 9) rfl rfl Tryz.func146 (by kernel_rfl) rfl #[.int .u8 (bt a0 0)] rfl am ?_; (with_reducible refine (lex_text.calls (bt a0 0) true _ A5.out).mono ?_); rintro e w' ⟨rfl, ⟨nd, rfl⟩⟩; refine ⟨_, rfl, ?_⟩))
    go_ret
    exact ⟨cl, d0⟩
   ·replace c6 := Bool.eq_false_iff.mpr c6; subst c6; have H1 : (some 3) = some r := by rw [if_neg (show ¬ (false = true) by decide)] at H; exact H
    clear H; have H := H1; clear H1; obtain rfl := Option.some.inj H; have p4 : 0 ≤ (0 : Int) := (by omega)
    have q4 : 0 < a0.size := (by have : (0 : Int) < (a0.size : Int) := od; omega)
    have hx4 : ∀ h : 0 < a0.size, ((a0[0]'h).toNat : Int) = bt a0 0 := bt_at a0 0; clear p4; have qi4 : (0 < (a0.size : Int)) = True := eq_true (od); replace q4 := eq_true q4
    go_enter Tryz.func145, Tryz.ntmps145
    go_wp2_with (first | ((with_reducible refine gate_callee (f := 146) rfl ?_); refine goesL_ (some 9) rfl rfl Tryz.func146 (by kernel_rfl) rfl #[.int .u8 (bt a0 0)] rfl am ?_; (with_reducible refine (lex_text.calls (bt a0 0) false _ A5.out).mono ?_); rintro e w' ⟨rfl, ⟨nd, rfl⟩⟩; refine ⟨_, rfl, ?_⟩))
    go_ret
    exact ⟨cl, d0⟩
  ·rw [if_neg c3] at H; exact absurd H (by simp)

end Go.Proofs.YtbjbpgmjijeppaaGreatDoor.Fn
namespace Go.Proofs.YtbjbpgmjijeppaaGreatDoor.Fn
open Go.RowKit Go.Proofs.YtbjbpgmjijeppaaGreatDoorW.PrintWords Go.Proofs.YtbjbpgmjijeppaaGreatDoorW.PrintLast Go.Proofs.YtbjbpgmjijeppaaGreatDoorW.PrintMore
attribute [local go_sem] max2_int min2_int max_two min_two max_three min_three max_four min_four
set_option linter.unusedVariables false
set_option linter.unusedSimpArgs false

def lex_white.f (a0 : Int) : Option (Bool) := if a0 = 32 then (some true) else (some (a0 == 9))
set_option maxHeartbeats 8000000 in
set_option maxRecDepth 100000 in
theorem lex_white.calls (a0 : Int) (r : Bool) (w : World) (h : lex_white.f a0 = some r) :
  Calls Tryz.prog 133 #[.int .u8 a0] w fun e w' => e = .returned (.bool r) ∧ Drawn0 w w' := by
 have H : (if a0 = 32 then (some true) else (some (a0 == 9))) = some r := h; clear h
 by_cases c2 : a0 = 32
 ·rw [if_pos c2] at H; have c2b0 : (a0 == 32) = true := beq_iff_eq.mpr c2; have c2b1 : (a0 != 32) = false := bne_eq_false_iff_eq.mpr c2; clear c2; obtain rfl := Option.some.inj H
  go_enter Tryz.func133, Tryz.ntmps133
  go_wp2
  go_ret
  exact ⟨cl, d0⟩
 ·rw [if_neg c2] at H; have c2b0 : (a0 == 32) = false := beq_eq_false_iff_ne.mpr c2; have c2b1 : (a0 != 32) = true := bne_iff_ne.mpr c2; obtain rfl := Option.some.inj H
  go_enter Tryz.func133, Tryz.ntmps133
  go_wp2
  go_ret
  exact ⟨cl, d0⟩

end Go.Proofs.YtbjbpgmjijeppaaGreatDoor.Fn
namespace Go.Proofs.YtbjbpgmjijeppaaGreatDoor.Fn
open Go.RowKit Go.Proofs.YtbjbpgmjijeppaaGreatDoorW.PrintWords Go.Proofs.YtbjbpgmjijeppaaGreatDoorW.PrintLast Go.Proofs.YtbjbpgmjijeppaaGreatDoorW.PrintMore
attribute [local go_sem] max2_int min2_int max_two min_two max_three min_three max_four min_four
set_option linter.unusedVariables false
set_option linter.unusedSimpArgs false

def lex_fold.f (a0 : ByteArray) : Option (Bool) := if (a0.size : Int) > 2 then (if 0 < (a0.size : Int) then (if (bt a0 0) = 13 then (if 1 < (a0.size : Int) then (if (bt a0 1) = 10 then (if 2 < (a0.size : Int) then ((lex_white.f (bt a0 2)).bind fun t153 => (some t153)) else (none)) else (some false)) else (none)) else (some false)) else (none)) else (some false)
set_option maxHeartbeats 8000000 in
set_option maxRecDepth 100000 in
theorem lex_fold.calls (a0 : ByteArray) (r : Bool) (w : World) (h : lex_fold.f a0 = some r) :
  Calls Tryz.prog 134 #[.string a0] w fun e w' => e = .returned (.bool r) ∧ Drawn0 w w' := by
 have H : (if (a0.size : Int) > 2 then (if 0 < (a0.size : Int) then (if (bt a0 0) = 13 then (if 1 < (a0.size : Int) then (if (bt a0 1) = 10 then (if 2 < (a0.size : Int) then ((lex_white.f (bt a0 2)).bind fun t153 => (some t153)) else (none)) else (some false)) else (none)) else (some false)) else (none)) else (some false)) = some r := h; clear h
 by_cases c2 : (a0.size : Int) > 2
 ·rw [if_pos c2] at H; have c2b0 : decide (2 < (a0.size : Int)) = true := decide_eq_true c2; have c2b1 : decide (2 < a0.size) = true := decide_eq_true (by omega); clear c2
  by_cases c3 : 0 < (a0.size : Int)
  ·rw [if_pos c3] at H; have c3b0 : decide (0 < (a0.size : Int)) = true := decide_eq_true c3; have c3b1 : decide (0 < a0.size) = true := decide_eq_true (by omega); clear c3
   by_cases c5 : (bt a0 0) = 13
   ·rw [if_pos c5] at H; have c5b0 : ((bt a0 0) == 13) = true := beq_iff_eq.mpr c5; have c5b1 : ((bt a0 0) != 13) = false := bne_eq_false_iff_eq.mpr c5; clear c5
    by_cases c6 : 1 < (a0.size : Int)
    ·rw [if_pos c6] at H; have c6b0 : decide (1 < (a0.size : Int)) = true := decide_eq_true c6; have c6b1 : decide (1 < a0.size) = true := decide_eq_true (by omega); clear c6
     by_cases c8 : (bt a0 1) = 10
     ·rw [if_pos c8] at H; have c8b0 : ((bt a0 1) == 10) = true := beq_iff_eq.mpr c8; have c8b1 : ((bt a0 1) != 10) = false := bne_eq_false_iff_eq.mpr c8; clear c8
      by_cases c9 : 2 < (a0.size : Int)
      ·rw [if_pos c9] at H; have c9b0 : decide (2 < (a0.size : Int)) = true := decide_eq_true c9; have c9b1 : decide (2 < a0.size) = true := decide_eq_true (by omega); clear c9; replace H := Option.bind_eq_some_iff.mp H; obtain ⟨t153, A110, H⟩ := H; replace H : (some t153) = some r := H; have A11 := Aside0.mk A110; clear A110; obtain rfl := Option.some.inj H; have p4 : 0 ≤ (0 : Int) := (by omega)
       have q4 : 0 < a0.size := (by have : (0 : Int) < (a0.size : Int) := od; omega)
       have hx4 : ∀ h : 0 < a0.size, ((a0[0]'h).toNat : Int) = bt a0 0 := bt_at a0 0; clear p4; have qi4 : (0 < (a0.size : Int)) = True := eq_true (od); replace q4 := eq_true q4; have p7 : 0 ≤ (1 : Int) := (by omega)
       have q7 : 1 < a0.size := (by have : (1 : Int) < (a0.size : Int) := od; omega)
       have hx7 : ∀ h : 1 < a0.size, ((a0[1]'h).toNat : Int) = bt a0 1 := bt_at a0 1; clear p7; have qi7 : (1 < (a0.size : Int)) = True := eq_true (od); replace q7 := eq_true q7; have p10 : 0 ≤ (2 : Int) := (by omega)
       have q10 : 2 < a0.size := (by have : (2 : Int) < (a0.size : Int) := od; omega)
       have hx10 : ∀ h : 2 < a0.size, ((a0[2]'h).toNat : Int) = bt a0 2 := bt_at a0 2; clear p10; have qi10 : (2 < (a0.size : Int)) = True := eq_true (od); replace q10 := eq_true q10
       go_enter Tryz.func134, Tryz.ntmps134
       go_wp2_with (first | (go_at_call 133; (with_reducible refine (lex_white.calls (bt a0 2) t153 _ A11.out).mono ?_); rintro e w' ⟨rfl, ⟨nd, rfl⟩⟩))
       go_ret
       exact ⟨cl, d0⟩
      ·rw [if_neg c9] at H; exact absurd H (by simp)
     ·rw [if_neg c8] at H; have c8b0 : ((bt a0 1) == 10) = false := beq_eq_false_iff_ne.mpr c8; have c8b1 : ((bt a0 1) != 10) = true := bne_iff_ne.mpr c8; obtain rfl := Option.some.inj H; have p4 : 0 ≤ (0 : Int) := (by omega)
      have q4 : 0 < a0.size := (by have : (0 : Int) < (a0.size : Int) := od; omega)
      have hx4 : ∀ h : 0 < a0.size, ((a0[0]'h).toNat : Int) = bt a0 0 := bt_at a0 0; clear p4; have qi4 : (0 < (a0.size : Int)) = True := eq_true (od); replace q4 := eq_true q4; have p7 : 0 ≤ (1 : Int) := (by omega)
      have q7 : 1 < a0.size := (by have : (1 : Int) < (a0.size : Int) := od; omega)
      have hx7 : ∀ h : 1 < a0.size, ((a0[1]'h).toNat : Int) = bt a0 1 := bt_at a0 1; clear p7; have qi7 : (1 < (a0.size : Int)) = True := eq_true (od); replace q7 := eq_true q7
      go_enter Tryz.func134, Tryz.ntmps134
      go_wp2
      go_ret
      exact ⟨cl, d0⟩
    ·rw [if_neg c6] at H; exact absurd H (by simp)
   ·rw [if_neg c5] at H; have c5b0 : ((bt a0 0) == 13) = false := beq_eq_false_iff_ne.mpr c5; have c5b1 : ((bt a0 0) != 13) = true := bne_iff_ne.mpr c5; obtain rfl := Option.some.inj H; have p4 : 0 ≤ (0 : Int) := (by omega)
    have q4 : 0 < a0.size := (by have : (0 : Int) < (a0.size : Int) := od; omega)
    have hx4 : ∀ h : 0 < a0.size, ((a0[0]'h).toNat : Int) = bt a0 0 := bt_at a0 0; clear p4; have qi4 : (0 < (a0.size : Int)) = True := eq_true (od); replace q4 := eq_true q4
    go_enter Tryz.func134, Tryz.ntmps134
    go_wp2
    go_ret
    exact ⟨cl, d0⟩
  ·rw [if_neg c3] at H; exact absurd H (by simp)
 ·rw [if_neg c2] at H; have c2b0 : decide (2 < (a0.size : Int)) = false := decide_eq_false c2; have c2b1 : decide (2 < a0.size) = false := decide_eq_false (by omega); clear c2; obtain rfl := Option.some.inj H
  go_enter Tryz.func134, Tryz.ntmps134
  go_wp2
  go_ret
  exact ⟨cl, d0⟩

end Go.Proofs.YtbjbpgmjijeppaaGreatDoor.Fn
namespace Go.Proofs.YtbjbpgmjijeppaaGreatDoor.Fn
open Go.RowKit Go.Proofs.YtbjbpgmjijeppaaGreatDoorW.PrintWords Go.Proofs.YtbjbpgmjijeppaaGreatDoorW.PrintLast Go.Proofs.YtbjbpgmjijeppaaGreatDoorW.PrintMore
attribute [local go_sem] max2_int min2_int max_two min_two max_three min_three max_four min_four
set_option linter.unusedVariables false
set_option linter.unusedSimpArgs false

mutual
def lex_comment.l0 : Nat → ByteArray → Int → Int → Option (ByteArray × Int)
 | 0, _, _, _ => none
 | k + 1, x0, x4, x5 => if x5 < (x0.size : Int) then (if 0 ≤ x5 then (if x5 ≤ (x0.size : Int) then ((lex_fold.f (x0.extract (x5 : Int).toNat x0.size)).bind fun t155 => (if t155 = true then (lex_comment.l0 k x0 x4 (wrap64 ((wrap64 (x5 + 1)) + 1))) else (if (bt x0 x5) = 92 then (if 0 ≤ (wrap64 (x5 + 1)) then (if (wrap64 (x5 + 1)) ≤ (x0.size : Int) then ((lex_escaped.f (x0.extract ((wrap64 (x5 + 1)) : Int).toNat x0.size)).bind fun t156 => (if t156 = 0 then (lex_comment.l0 k x0 x4 (wrap64 ((wrap64 (x5 + 1)) + 1))) else (some ((⟨#[]⟩ : ByteArray), t156)))) else (none)) else (none)) else (if (bt x0 x5) = 40 then (lex_comment.j1 k x0 x4 x5 (bt x0 x5) (x4 == 16)) else (lex_comment.j1 k x0 x4 x5 (bt x0 x5) false))))) else (none)) else (none)) else (if x4 > 0 then (some ((⟨#[]⟩ : ByteArray), 9)) else (some (x0, 0)))
def lex_comment.j1 : Nat → ByteArray → Int → Int → Int → Bool → Option (ByteArray × Int)
 | 0, _, _, _, _, _ => none
 | k + 1, x0, x4, x5, x6, x36 => if x36 = true then (some ((⟨#[]⟩ : ByteArray), 1)) else (if x6 = 40 then (lex_comment.l0 k x0 (wrap64 (x4 + 1)) (wrap64 (x5 + 1))) else (if x6 = 41 then (lex_comment.j2 k x0 x4 x5 x6 (x4 == 1)) else (lex_comment.j2 k x0 x4 x5 x6 false)))
def lex_comment.j2 : Nat → ByteArray → Int → Int → Int → Bool → Option (ByteArray × Int)
 | 0, _, _, _, _, _ => none
 | k + 1, x0, x4, x5, x6, x48 => if x48 = true then (if 0 ≤ (wrap64 (x5 + 1)) then (if (wrap64 (x5 + 1)) ≤ (x0.size : Int) then (if 0 > 0 then (some ((⟨#[]⟩ : ByteArray), 9)) else (some (x0.extract ((wrap64 (x5 + 1)) : Int).toNat x0.size, 0))) else (none)) else (none)) else (if x6 = 41 then (lex_comment.l0 k x0 (wrap64 (x4 - 1)) (wrap64 (x5 + 1))) else ((lex_text.f x6).bind fun t157 => (if t157 = true then (lex_comment.l0 k x0 x4 (wrap64 (x5 + 1))) else (some ((⟨#[]⟩ : ByteArray), 3)))))
end
def lex_comment.f (k : Nat) (a0 : ByteArray) : Option (ByteArray × Int) := lex_comment.l0 k a0 0 0
set_option maxHeartbeats 8000000 in
set_option maxRecDepth 100000 in
theorem lex_comment.calls (k : Nat) (a0 : ByteArray) (r1 : ByteArray) (r2 : Int) (w : World) (h : lex_comment.f k a0 = some (r1, r2)) :
  Calls Tryz.prog 135 #[.string a0] w fun e w' => e = .returned (.tuple #[.string r1, .int .i64 r2]) ∧ Drawn0 w w' := by
 have H : (lex_comment.l0 k a0 0 0) = some (r1, r2) := h; clear h; have H' := Aside0.mk H; clear H
 go_enter Tryz.func135, Tryz.ntmps135
 go_wp2
 go_step3
 go_wp2
 go_step3
 go_wp2
 go_loopg [0, 4, 5] k (fun kq v0 v4 v5 w' => ∃ (x0_1 : ByteArray) (x4_1 : Int) (x5_1 : Int), v0 = .string x0_1 ∧ v4 = .int .i64 x4_1 ∧ v5 = .int .i64 x5_1 ∧ Aside0 (lex_comment.l0 kq x0_1 x4_1 x5_1 = some (r1, r2)) ∧ Aside0 (kq ≤ k) ∧ Drawn0 w w')
 case atStart => exact ⟨(a0), (0), (0), cl, cl, cl, H', ⟨Nat.le_refl _⟩, d0⟩
 case round =>
  clear H'
  try clear c1
  obtain ⟨x0_1, x4_1, x5_1, rfl, rfl, rfl, HA, HK1, ⟨m1, rfl⟩⟩ := hrel; cases gk with
  | zero => exact absurd HA.out (by simp [lex_comment.l0])
  | succ k1 =>
   have H := HA.out; clear HA; simp only [lex_comment.l0] at H
   by_cases c2 : x5_1 < (x0_1.size : Int)
   ·rw [if_pos c2] at H; have c2b0 : decide (x5_1 < (x0_1.size : Int)) = true := decide_eq_true c2; clear c2
    by_cases c3 : 0 ≤ x5_1
    ·rw [if_pos c3] at H; have c3b0 : decide (0 ≤ x5_1) = true := decide_eq_true c3; clear c3; have c5b0 := eq_true (od : 0 ≤ x5_1)
     by_cases c6 : x5_1 ≤ (x0_1.size : Int)
     ·rw [if_pos c6] at H; have c6b0 := eq_true c6; have c6b1 : decide (x5_1 ≤ (x0_1.size : Int)) = true := decide_eq_true c6; clear c6; replace H := Option.bind_eq_some_iff.mp H; obtain ⟨t155, A70, H⟩ := H; replace H : (if t155 = true then (lex_comment.l0 k1 x0_1 x4_1 (wrap64 ((wrap64 (x5_1 + 1)) + 1))) else (if (bt x0_1 x5_1) = 92 then (if 0 ≤ (wrap64 (x5_1 + 1)) then (if (wrap64 (x5_1 + 1)) ≤ (x0_1.size : Int) then ((lex_escaped.f (x0_1.extract ((wrap64 (x5_1 + 1)) : Int).toNat x0_1.size)).bind fun t156 => (if t156 = 0 then (lex_comment.l0 k1 x0_1 x4_1 (wrap64 ((wrap64 (x5_1 + 1)) + 1))) else (some ((⟨#[]⟩ : ByteArray), t156)))) else (none)) else (none)) else (if (bt x0_1 x5_1) = 40 then (lex_comment.j1 k1 x0_1 x4_1 x5_1 (bt x0_1 x5_1) (x4_1 == 16)) else (lex_comment.j1 k1 x0_1 x4_1 x5_1 (bt x0_1 x5_1) false)))) = some (r1, r2) := H; have A7 := Aside0.mk A70; clear A70
      by_cases c8 : t155 = true
      ·subst c8; have H1 : (lex_comment.l0 k1 x0_1 x4_1 (wrap64 ((wrap64 (x5_1 + 1)) + 1))) = some (r1, r2) := by rw [if_pos rfl] at H; exact H
       clear H; have H := H1; clear H1; have H' := Aside0.mk H; clear H; have p4 : 0 ≤ (x5_1 : Int) := od; have q4 : x5_1 < (x0_1.size : Int) := od; have hx4 := bt_at x0_1 x5_1; replace p4 := eq_true p4; replace q4 := eq_true q4
       go_wp2_with (first | ((with_reducible refine gate_callee (f := 134) rfl ?_); refine goesL_ (some 21) rfl rfl Tryz.func134 (by kernel_rfl) rfl #[.string (x0_1.extract (x5_1 : Int).toNat x0_1.size)] rfl am ?_; (with_reducible refine (lex_fold.calls (x0_1.extract (x5_1 : Int).toNat x0_1.size) true _ A7.out).mono ?_); rintro e w' ⟨rfl, ⟨nd, rfl⟩⟩; refine ⟨_, rfl, ?_⟩))
       go_roundg k1
       case measure => have := HK1.out; omega
       case rel => exact ⟨(x0_1), (x4_1), (wrap64 ((wrap64 (x5_1 + 1)) + 1)), cl, cl, cl, H', ⟨by have := HK1.out; omega⟩, d0⟩
      ·replace c8 := Bool.eq_false_iff.mpr c8; subst c8; have H1 : (if (bt x0_1 x5_1) = 92 then (if 0 ≤ (wrap64 (x5_1 + 1)) then (if (wrap64 (x5_1 + 1)) ≤ (x0_1.size : Int) then ((lex_escaped.f (x0_1.extract ((wrap64 (x5_1 + 1)) : Int).toNat x0_1.size)).bind fun t156 => (if t156 = 0 then (lex_comment.l0 k1 x0_1 x4_1 (wrap64 ((wrap64 (x5_1 + 1)) + 1))) else (some ((⟨#[]⟩ : ByteArray), t156)))) else (none)) else (none)) else (if (bt x0_1 x5_1) = 40 then (lex_comment.j1 k1 x0_1 x4_1 x5_1 (bt x0_1 x5_1) (x4_1 == 16)) else (lex_comment.j1 k1 x0_1 x4_1 x5_1 (bt x0_1 x5_1) false))) = some (r1, r2) := by rw [if_neg (show ¬ (false = true) by decide)] at H; exact H
       clear H; have H := H1; clear H1
       by_cases c9 : (bt x0_1 x5_1) = 92
       ·rw [if_pos c9] at H; have c9b0 : ((bt x0_1 x5_1) == 92) = true := beq_iff_eq.mpr c9; have c9b1 : ((bt x0_1 x5_1) != 92) = false := bne_eq_false_iff_eq.mpr c9; clear c9; obtain ⟨ji10, hji10⟩ : ∃ j_ : Int, (wrap64 (x5_1 + 1)) = j_ := ⟨_, rfl⟩
        replace H : (if 0 ≤ (ji10) then (if (ji10) ≤ (x0_1.size : Int) then ((lex_escaped.f (x0_1.extract ((ji10) : Int).toNat x0_1.size)).bind fun t156 => (if t156 = 0 then (lex_comment.l0 k1 x0_1 x4_1 (wrap64 ((ji10) + 1))) else (some ((⟨#[]⟩ : ByteArray), t156)))) else (none)) else (none)) = some (r1, r2) := by first | (rw [hji10] at H; exact H) | (simp only [hji10] at H ⊢; exact H)
        (try rw [hji10] at A7)
        have hji10w : (IntKind.i64.wrap (x5_1 + 1)) = ji10 := (i64_w _).trans hji10
        by_cases c11 : 0 ≤ (ji10)
        ·rw [if_pos c11] at H; have c11b0 := eq_true c11; have c11b1 : decide (0 ≤ (ji10)) = true := decide_eq_true c11; clear c11
         by_cases c12 : (ji10) ≤ (x0_1.size : Int)
         ·rw [if_pos c12] at H; have c12b0 := eq_true c12; have c12b1 : decide ((ji10) ≤ (x0_1.size : Int)) = true := decide_eq_true c12; clear c12; replace H := Option.bind_eq_some_iff.mp H; obtain ⟨t156, A130, H⟩ := H; replace H : (if t156 = 0 then (lex_comment.l0 k1 x0_1 x4_1 (wrap64 ((ji10) + 1))) else (some ((⟨#[]⟩ : ByteArray), t156))) = some (r1, r2) := H; have A13 := Aside0.mk A130; clear A130
          by_cases c14 : t156 = 0
          ·rw [if_pos c14] at H; have c14b0 : (t156 == 0) = true := beq_iff_eq.mpr c14; have c14b1 : (t156 != 0) = false := bne_eq_false_iff_eq.mpr c14; clear c14; have H' := Aside0.mk H; clear H; have p4 : 0 ≤ (x5_1 : Int) := od; have q4 : x5_1 < (x0_1.size : Int) := od; have hx4 := bt_at x0_1 x5_1; replace p4 := eq_true p4; replace q4 := eq_true q4
           go_wp2_with (first | ((with_reducible refine gate_callee (f := 134) rfl ?_); refine goesL_ (some 21) rfl rfl Tryz.func134 (by kernel_rfl) rfl #[.string (x0_1.extract (x5_1 : Int).toNat x0_1.size)] rfl am ?_; (with_reducible refine (lex_fold.calls (x0_1.extract (x5_1 : Int).toNat x0_1.size) false _ A7.out).mono ?_); rintro e w' ⟨rfl, ⟨nd, rfl⟩⟩; refine ⟨_, rfl, ?_⟩) | ((with_reducible refine gate_callee (f := 145) rfl ?_); refine goesL_ (some 32) rfl rfl Tryz.func145 (by kernel_rfl) rfl #[.string (x0_1.extract ((ji10) : Int).toNat x0_1.size)] rfl (by (try simp only [List.map_toArray, List.map_cons, List.map_nil]); first | done | (simp only [hji10]; rfl) | rfl | (simp only [List.length_drop, List.length_take]; rfl)) ?_; (with_reducible refine (lex_escaped.calls (x0_1.extract ((ji10) : Int).toNat x0_1.size) t156 _ A13.out).mono ?_); rintro e w' ⟨rfl, ⟨nd, rfl⟩⟩; refine ⟨_, rfl, ?_⟩))
           go_roundg k1
           case measure => have := HK1.out; omega
           case rel => exact ⟨(x0_1), (x4_1), (wrap64 ((ji10) + 1)), cl, cl, (by first | rfl | (simp; done) | (simp only [← hji10] <;> (first | rfl | simp)) | (simp [*]; done) | (simp [nil_ne]; done)), H', ⟨by have := HK1.out; omega⟩, d0⟩
          ·rw [if_neg c14] at H; have c14b0 : (t156 == 0) = false := beq_eq_false_iff_ne.mpr c14; have c14b1 : (t156 != 0) = true := bne_iff_ne.mpr c14; simp only [Option.some.injEq, Prod.mk.injEq] at H; obtain ⟨rfl, rfl⟩ := H; have p4 : 0 ≤ (x5_1 : Int) := od; have q4 : x5_1 < (x0_1.size : Int) := od; have hx4 := bt_at x0_1 x5_1; replace p4 := eq_true p4; replace q4 := eq_true q4
           go_wp2_with (first | ((with_reducible refine gate_callee (f := 134) rfl ?_); refine goesL_ (some 21) rfl rfl Tryz.func134 (by kernel_rfl) rfl #[.string (x0_1.extract (x5_1 : Int).toNat x0_1.size)] rfl am ?_; (with_reducible refine (lex_fold.calls (x0_1.extract (x5_1 : Int).toNat x0_1.size) false _ A7.out).mono ?_); rintro e w' ⟨rfl, ⟨nd, rfl⟩⟩; refine ⟨_, rfl, ?_⟩) | ((with_reducible refine gate_callee (f := 145) rfl ?_); refine goesL_ (some 32) rfl rfl Tryz.func145 (by kernel_rfl) rfl #[.string (x0_1.extract ((ji10) : Int).toNat x0_1.size)] rfl (by (try simp only [List.map_toArray, List.map_cons, List.map_nil]); first | done | (simp only [hji10]; rfl) | rfl | (simp only [List.length_drop, List.length_take]; rfl)) ?_; (with_reducible refine (lex_escaped.calls (x0_1.extract ((ji10) : Int).toNat x0_1.size) t156 _ A13.out).mono ?_); rintro e w' ⟨rfl, ⟨nd, rfl⟩⟩; refine ⟨_, rfl, ?_⟩))
           (try rw [Exit.noGoto_ret])
           go_ret2
           exact ⟨by first | rfl | (simp; done) | (simp only [← hji10] <;> (first | rfl | simp)) | (simp [*]; done) | (simp [nil_ne]; done), d0⟩
         ·rw [if_neg c12] at H; exact absurd H (by simp)
        ·rw [if_neg c11] at H; exact absurd H (by simp)
       ·rw [if_neg c9] at H; have c9b0 : ((bt x0_1 x5_1) == 92) = false := beq_eq_false_iff_ne.mpr c9; have c9b1 : ((bt x0_1 x5_1) != 92) = true := bne_iff_ne.mpr c9; have HC15 := Aside0.mk H; clear H; have p4 : 0 ≤ (x5_1 : Int) := od; have q4 : x5_1 < (x0_1.size : Int) := od; have hx4 := bt_at x0_1 x5_1; replace p4 := eq_true p4; replace q4 := eq_true q4
        go_upto_region 13 with (first | ((with_reducible refine gate_callee (f := 134) rfl ?_); refine goesL_ (some 21) rfl rfl Tryz.func134 (by kernel_rfl) rfl #[.string (x0_1.extract (x5_1 : Int).toNat x0_1.size)] rfl am ?_; (with_reducible refine (lex_fold.calls (x0_1.extract (x5_1 : Int).toNat x0_1.size) false _ A7.out).mono ?_); rintro e w' ⟨rfl, ⟨nd, rfl⟩⟩; refine ⟨_, rfl, ?_⟩))
        (try simp only [Act.put, List.setIfInBounds_toArray, List.set_cons_zero, List.set_cons_succ])
        go_cut [36] (fun v36 wc => ∃ (kq : Nat) (x36_14 : Bool), v36 = .bool x36_14 ∧ Aside0 (lex_comment.j1 kq x0_1 x4_1 x5_1 (bt x0_1 x5_1) x36_14 = some (r1, r2)) ∧ Aside0 (kq ≤ k1) ∧ Drawn0 w wc)
        case first =>
         have H := HC15.out; clear HC15
         by_cases c16 : (bt x0_1 x5_1) = 40
         ·rw [if_pos c16] at H; have c16b0 : ((bt x0_1 x5_1) == 40) = true := beq_iff_eq.mpr c16; have c16b1 : ((bt x0_1 x5_1) != 40) = false := bne_eq_false_iff_eq.mpr c16; clear c16
          (first | rw [c16b0] | (simp only [i64_w, i32_w]; rw [c16b0]) | skip)
          have H' := Aside0.mk H; clear H
          go_wp2
          go_meet
          case rel => exact ⟨_, ((x4_1 == 16)), cl, H', ⟨by have := HK1.out; first | omega | exact Nat.le_refl _⟩, d0⟩
         ·rw [if_neg c16] at H; have c16b0 : ((bt x0_1 x5_1) == 40) = false := beq_eq_false_iff_ne.mpr c16; have c16b1 : ((bt x0_1 x5_1) != 40) = true := bne_iff_ne.mpr c16
          (first | rw [c16b0] | (simp only [i64_w, i32_w]; rw [c16b0]) | skip)
          have H' := Aside0.mk H; clear H
          go_wp2
          go_meet
          case rel => exact ⟨_, (false), cl, H', ⟨by have := HK1.out; first | omega | exact Nat.le_refl _⟩, d0⟩
        case rest =>
         clear HC15
         try clear c1
         try clear c2
         try clear c2b0
         try clear p2
         try clear c3
         try clear c3b0
         try clear p4
         try clear q4
         try clear hx4
         try clear c5
         try clear c5b0
         try clear c6
         try clear c6b0
         try clear c6b1
         try clear p6
         try clear c8
         try clear c9
         try clear c9b0
         try clear c9b1
         try clear c11
         try clear c11b0
         try clear c11b1
         try clear c12
         try clear c12b0
         try clear c12b1
         try clear c13
         try clear c14
         try clear c14b0
         try clear c14b1
         try clear c16
         try clear c16b0
         try clear c16b1
         try clear p4
         try clear q4
         obtain ⟨kq, x36_14, rfl, HA, HJ14, ⟨mc14, rfl⟩⟩ := hcut; cases kq with
         | zero => exact absurd HA.out (by simp [lex_comment.j1])
         | succ kj14 =>
          have H := HA.out; clear HA; simp only [lex_comment.j1] at H
          by_cases c17 : x36_14 = true
          ·subst c17; have H1 : (some ((⟨#[]⟩ : ByteArray), 1)) = some (r1, r2) := by rw [if_pos rfl] at H; exact H
           clear H; have H := H1; clear H1; simp only [Option.some.injEq, Prod.mk.injEq] at H; obtain ⟨rfl, rfl⟩ := H
           go_wp2
           (try rw [Exit.noGoto_ret])
           go_ret2
           exact ⟨cl, d0⟩
          ·replace c17 := Bool.eq_false_iff.mpr c17; subst c17; have H1 : (if (bt x0_1 x5_1) = 40 then (lex_comment.l0 kj14 x0_1 (wrap64 (x4_1 + 1)) (wrap64 (x5_1 + 1))) else (if (bt x0_1 x5_1) = 41 then (lex_comment.j2 kj14 x0_1 x4_1 x5_1 (bt x0_1 x5_1) (x4_1 == 1)) else (lex_comment.j2 kj14 x0_1 x4_1 x5_1 (bt x0_1 x5_1) false))) = some (r1, r2) := by rw [if_neg (show ¬ (false = true) by decide)] at H; exact H
           clear H; have H := H1; clear H1
           by_cases c18 : (bt x0_1 x5_1) = 40
           ·rw [if_pos c18] at H; have c18b0 : ((bt x0_1 x5_1) == 40) = true := beq_iff_eq.mpr c18; have c18b1 : ((bt x0_1 x5_1) != 40) = false := bne_eq_false_iff_eq.mpr c18; clear c18; have H' := Aside0.mk H; clear H
            go_wp2
            go_roundg kj14
            case measure => have := HK1.out; have := HJ14.out; omega
            case rel => exact ⟨(x0_1), (wrap64 (x4_1 + 1)), (wrap64 (x5_1 + 1)), cl, cl, cl, H', ⟨by have := HK1.out; have := HJ14.out; omega⟩, d0⟩
           ·rw [if_neg c18] at H; have c18b0 : ((bt x0_1 x5_1) == 40) = false := beq_eq_false_iff_ne.mpr c18; have c18b1 : ((bt x0_1 x5_1) != 40) = true := bne_iff_ne.mpr c18; have HC19 := Aside0.mk H; clear H
            go_upto_region 17 with (fail)
            go_cut [48] (fun v48 wc => ∃ (kq : Nat) (x48_18 : Bool), v48 = .bool x48_18 ∧ Aside0 (lex_comment.j2 kq x0_1 x4_1 x5_1 (bt x0_1 x5_1) x48_18 = some (r1, r2)) ∧ Aside0 (kq ≤ kj14) ∧ Drawn0 w wc)
            case first =>
             have H := HC19.out; clear HC19
             by_cases c20 : (bt x0_1 x5_1) = 41
             ·rw [if_pos c20] at H; have c20b0 : ((bt x0_1 x5_1) == 41) = true := beq_iff_eq.mpr c20; have c20b1 : ((bt x0_1 x5_1) != 41) = false := bne_eq_false_iff_eq.mpr c20; clear c20
              (first | rw [c20b0] | (simp only [i64_w, i32_w]; rw [c20b0]) | skip)
              have H' := Aside0.mk H; clear H
              go_wp2
              go_meet
              case rel => exact ⟨_, ((x4_1 == 1)), cl, H', ⟨by have := HK1.out; have := HJ14.out; first | omega | exact Nat.le_refl _⟩, d0⟩
             ·rw [if_neg c20] at H; have c20b0 : ((bt x0_1 x5_1) == 41) = false := beq_eq_false_iff_ne.mpr c20; have c20b1 : ((bt x0_1 x5_1) != 41) = true := bne_iff_ne.mpr c20
              (first | rw [c20b0] | (simp only [i64_w, i32_w]; rw [c20b0]) | skip)
              have H' := Aside0.mk H; clear H
              go_wp2
              go_meet
              case rel => exact ⟨_, (false), cl, H', ⟨by have := HK1.out; have := HJ14.out; first | omega | exact Nat.le_refl _⟩, d0⟩
            case rest =>
             clear HC19
             try clear c1
             try clear c2
             try clear c2b0
             try clear p2
             try clear c3
             try clear c3b0
             try clear p4
             try clear q4
             try clear hx4
             try clear c5
             try clear c5b0
             try clear c6
             try clear c6b0
             try clear c6b1
             try clear p6
             try clear c8
             try clear c9
             try clear c9b0
             try clear c9b1
             try clear c11
             try clear c11b0
             try clear c11b1
             try clear c12
             try clear c12b0
             try clear c12b1
             try clear c13
             try clear c14
             try clear c14b0
             try clear c14b1
             try clear c16
             try clear c16b0
             try clear c16b1
             try clear c17
             try clear c18
             try clear c18b0
             try clear c18b1
             try clear c20
             try clear c20b0
             try clear c20b1
             try clear p2
             try clear p4
             try clear p6
             try clear q4
             obtain ⟨kq, x48_18, rfl, HA, HJ18, ⟨mc18, rfl⟩⟩ := hcut; cases kq with
             | zero => exact absurd HA.out (by simp [lex_comment.j2])
             | succ kj18 =>
              have H := HA.out; clear HA; simp only [lex_comment.j2] at H
              by_cases c21 : x48_18 = true
              ·subst c21; have H1 : (if 0 ≤ (wrap64 (x5_1 + 1)) then (if (wrap64 (x5_1 + 1)) ≤ (x0_1.size : Int) then (if 0 > 0 then (some ((⟨#[]⟩ : ByteArray), 9)) else (some (x0_1.extract ((wrap64 (x5_1 + 1)) : Int).toNat x0_1.size, 0))) else (none)) else (none)) = some (r1, r2) := by rw [if_pos rfl] at H; exact H
               clear H; have H := H1; clear H1; obtain ⟨ji22, hji22⟩ : ∃ j_ : Int, (wrap64 (x5_1 + 1)) = j_ := ⟨_, rfl⟩
               replace H : (if 0 ≤ (ji22) then (if (ji22) ≤ (x0_1.size : Int) then (if 0 > 0 then (some ((⟨#[]⟩ : ByteArray), 9)) else (some (x0_1.extract ((ji22) : Int).toNat x0_1.size, 0))) else (none)) else (none)) = some (r1, r2) := by first | (rw [hji22] at H; exact H) | (simp only [hji22] at H ⊢; exact H)
               have hji22w : (IntKind.i64.wrap (x5_1 + 1)) = ji22 := (i64_w _).trans hji22
               by_cases c23 : 0 ≤ (ji22)
               ·rw [if_pos c23] at H; have c23b0 := eq_true c23; have c23b1 : decide (0 ≤ (ji22)) = true := decide_eq_true c23; clear c23
                by_cases c24 : (ji22) ≤ (x0_1.size : Int)
                ·rw [if_pos c24] at H; have c24b0 := eq_true c24; have c24b1 : decide ((ji22) ≤ (x0_1.size : Int)) = true := decide_eq_true c24; clear c24
                 by_cases c25 : 0 > 0
                 ·exact absurd c25 (by decide)
                 ·rw [if_neg c25] at H; have c25b0 : decide (0 < 0) = false := decide_eq_false c25; clear c25; simp only [Option.some.injEq, Prod.mk.injEq] at H; obtain ⟨rfl, rfl⟩ := H
                  go_wp2
                  (try rw [Exit.noGoto_ret])
                  go_ret2
                  exact ⟨by first | rfl | (simp; done) | (simp only [← hji22] <;> (first | rfl | simp)) | (simp [*]; done) | (simp [nil_ne]; done), d0⟩
                ·rw [if_neg c24] at H; exact absurd H (by simp)
               ·rw [if_neg c23] at H; exact absurd H (by simp)
              ·replace c21 := Bool.eq_false_iff.mpr c21; subst c21; have H1 : (if (bt x0_1 x5_1) = 41 then (lex_comment.l0 kj18 x0_1 (wrap64 (x4_1 - 1)) (wrap64 (x5_1 + 1))) else ((lex_text.f (bt x0_1 x5_1)).bind fun t157 => (if t157 = true then (lex_comment.l0 kj18 x0_1 x4_1 (wrap64 (x5_1 + 1))) else (some ((⟨#[]⟩ : ByteArray), 3))))) = some (r1, r2) := by rw [if_neg (show ¬ (false = true) by decide)] at H; exact H
               clear H; have H := H1; clear H1
               by_cases c26 : (bt x0_1 x5_1) = 41
               ·rw [if_pos c26] at H; have c26b0 : ((bt x0_1 x5_1) == 41) = true := beq_iff_eq.mpr c26; have c26b1 : ((bt x0_1 x5_1) != 41) = false := bne_eq_false_iff_eq.mpr c26; clear c26; have H' := Aside0.mk H; clear H
                go_wp2
                go_roundg kj18
                case measure => have := HK1.out; have := HJ14.out; have := HJ18.out; omega
                case rel => exact ⟨(x0_1), (wrap64 (x4_1 - 1)), (wrap64 (x5_1 + 1)), cl, cl, cl, H', ⟨by have := HK1.out; have := HJ14.out; have := HJ18.out; omega⟩, d0⟩
               ·rw [if_neg c26] at H; have c26b0 : ((bt x0_1 x5_1) == 41) = false := beq_eq_false_iff_ne.mpr c26; have c26b1 : ((bt x0_1 x5_1) != 41) = true := bne_iff_ne.mpr c26; replace H := Option.bind_eq_some_iff.mp H; obtain ⟨t157, A270, H⟩ := H; replace H : (if t157 = true then (lex_comment.l0 kj18 x0_1 x4_1 (wrap64 (x5_1 + 1))) else (some ((⟨#[]⟩ : ByteArray), 3))) = some (r1, r2) := H; have A27 := Aside0.mk A270; clear A270
                by_cases c28 : t157 = true
                ·subst c28; have H1 : (lex_comment.l0 kj18 x0_1 x4_1 (wrap64 (x5_1 + 1))) = some (r1, r2) := by rw [if_pos rfl] at H; exact H
                 clear H; have H := H1; clear H1; have H' := Aside0.mk H; clear H
                 go_wp2_with (first | ((with_reducible refine gate_callee (f := 146) rfl ?_); refine goesL_ (some 66) rfl rfl Tryz.func146 (by kernel_rfl) rfl #[.int .u8 (bt x0_1 x5_1)] rfl am ?_; (with_reducible refine (lex_text.calls (bt x0_1 x5_1) true _ A27.out).mono ?_); rintro e w' ⟨rfl, ⟨nd, rfl⟩⟩; refine ⟨_, rfl, ?_⟩))
                 go_roundg kj18
                 case measure => have := HK1.out; have := HJ14.out; have := HJ18.out; omega
                 case rel => exact ⟨(x0_1), (x4_1), (wrap64 (x5_1 + 1)), cl, cl, cl, H', ⟨by have := HK1.out; have := HJ14.out; have := HJ18.out; omega⟩, d0⟩
                ·replace c28 := Bool.eq_false_iff.mpr c28; subst c28; have H1 : (some ((⟨#[]⟩ : ByteArray), 3)) = some (r1, r2) := by rw [if_neg (show ¬ (false = true) by decide)] at H; exact H
                 clear H; have H := H1; clear H1; simp only [Option.some.injEq, Prod.mk.injEq] at H; obtain ⟨rfl, rfl⟩ := H
                 go_wp2_with (first | ((with_reducible refine gate_callee (f := 146) rfl ?_); refine goesL_ (some 66) rfl rfl Tryz.func146 (by kernel_rfl) rfl #[.int .u8 (bt x0_1 x5_1)] rfl am ?_; (with_reducible refine (lex_text.calls (bt x0_1 x5_1) false _ A27.out).mono ?_); rintro e w' ⟨rfl, ⟨nd, rfl⟩⟩; refine ⟨_, rfl, ?_⟩))
                 (try rw [Exit.noGoto_ret])
                 go_ret2
                 exact ⟨cl, d0⟩
     ·rw [if_neg c6] at H; exact absurd H (by simp)
    ·rw [if_neg c3] at H; exact absurd H (by simp)
   ·rw [if_neg c2] at H; have c2b0 : decide (x5_1 < (x0_1.size : Int)) = false := decide_eq_false c2; clear c2
    by_cases c29 : x4_1 > 0
    ·rw [if_pos c29] at H; have c29b0 : decide (0 < x4_1) = true := decide_eq_true c29; clear c29; simp only [Option.some.injEq, Prod.mk.injEq] at H; obtain ⟨rfl, rfl⟩ := H
     go_wp2
     (try rw [Exit.noGoto_ret])
     go_ret2
     exact ⟨cl, d0⟩
    ·rw [if_neg c29] at H; have c29b0 : decide (0 < x4_1) = false := decide_eq_false c29; clear c29; simp only [Option.some.injEq, Prod.mk.injEq] at H; obtain ⟨rfl, rfl⟩ := H
     go_wp2
     (try rw [Exit.noGoto_ret])
     go_ret2
     exact ⟨cl, d0⟩

end Go.Proofs.YtbjbpgmjijeppaaGreatDoor.Fn
namespace Go.Proofs.YtbjbpgmjijeppaaGreatDoor.Fn
open Go.RowKit Go.Proofs.YtbjbpgmjijeppaaGreatDoorW.PrintWords Go.Proofs.YtbjbpgmjijeppaaGreatDoorW.PrintLast Go.Proofs.YtbjbpgmjijeppaaGreatDoorW.PrintMore
attribute [local go_sem] max2_int min2_int max_two min_two max_three min_three max_four min_four
set_option linter.unusedVariables false
set_option linter.unusedSimpArgs false

def lex_quoted.l0 : Nat → ByteArray → List Int → Int → Option (Int × ByteArray × ByteArray × Int)
 | 0, _, _, _ => none
 | k + 1, x0, x5, x6 => if x6 < (x0.size : Int) then (if 0 ≤ x6 then (if x6 ≤ (x0.size : Int) then ((lex_fold.f (x0.extract (x6 : Int).toNat x0.size)).bind fun t159 => (if t159 = true then (lex_quoted.l0 k x0 x5 (wrap64 ((wrap64 (x6 + 1)) + 1))) else (if (bt x0 x6) = 92 then (if 0 ≤ (wrap64 (x6 + 1)) then (if (wrap64 (x6 + 1)) ≤ (x0.size : Int) then ((lex_escaped.f (x0.extract ((wrap64 (x6 + 1)) : Int).toNat x0.size)).bind fun t160 => (if t160 = 0 then (if (wrap64 (x6 + 1)) < (x0.size : Int) then (if x5.length < 140737488355328 then (lex_quoted.l0 k x0 (x5 ++ [bt x0 (wrap64 (x6 + 1))]) (wrap64 ((wrap64 (x6 + 1)) + 1))) else (none)) else (none)) else (some (0, (⟨#[]⟩ : ByteArray), (⟨#[]⟩ : ByteArray), t160)))) else (none)) else (none)) else (if (bt x0 x6) = 34 then (if 0 ≤ (wrap64 (x6 + 1)) then (if (wrap64 (x6 + 1)) ≤ (x0.size : Int) then (some (2, strOfNums x5, x0.extract ((wrap64 (x6 + 1)) : Int).toNat x0.size, 0)) else (none)) else (none)) else ((lex_text.f (bt x0 x6)).bind fun t164 => (if t164 = true then (if x5.length < 140737488355328 then (lex_quoted.l0 k x0 (x5 ++ [bt x0 x6]) (wrap64 (x6 + 1))) else (none)) else (some (0, (⟨#[]⟩ : ByteArray), (⟨#[]⟩ : ByteArray), 3)))))))) else (none)) else (none)) else (some (0, (⟨#[]⟩ : ByteArray), (⟨#[]⟩ : ByteArray), 9))
def lex_quoted.f (k : Nat) (a0 : ByteArray) : Option (Int × ByteArray × ByteArray × Int) := lex_quoted.l0 k a0 ([] : List Int) 1
def lex_quoted.T16 : Bool × List (List Nat × List Nat) := (true, [([], []), ([0], [0]), ([1], [1]), ([], []), ([], []), ([4], [4]), ([3, 5], [3, 5]), ([2, 0, 1, 2], [2]), ([6, 7, 0, 1, 2, 3, 4, 5, 6, 7], [6]), ([8, 0, 1, 2, 3, 4, 5, 6, 7, 8], [])])
def lex_quoted.B16 : List Nat := [0, 1, 3, 0, 0, 16, 56, 7, 255, 511]
theorem lex_quoted.tab16 : rtab .any (opsOf Tryz.f136 16) = lex_quoted.T16 := by kernel_rfl
theorem lex_quoted.bits16 : waitsOk lex_quoted.T16.2 lex_quoted.B16 = true := by kernel_rfl
set_option maxHeartbeats 8000000 in
set_option maxRecDepth 100000 in
theorem lex_quoted.calls (k : Nat) (a0 : ByteArray) (r1 : Int) (r2 : ByteArray) (r3 : ByteArray) (r4 : Int) (w : World) (h : lex_quoted.f k a0 = some (r1, r2, r3, r4)) :
  Calls Tryz.prog 136 #[.string a0] w fun e w' => e = .returned (.tuple #[.agg #[.int .i64 r1, .string r2], .string r3, .int .i64 r4]) ∧ Below w.heap.size w w' := by
 have hu160 := Tryz.underlying160; have HB := Aside0.mk (Below.refl w.heap.size w); have H : (lex_quoted.l0 k a0 ([] : List Int) 1) = some (r1, r2, r3, r4) := h; clear h; have H' := Aside0.mk H; clear H
 go_enter Tryz.func136, Tryz.ntmps136
 go_wp2_with (first | ((with_reducible refine gate_dst (N := 2) rfl ?_); refine box_event ?hg (N := 2) ?hd (cs := #[.int .i64 0, .string (⟨#[]⟩ : ByteArray)]) (t := 160) ?hr ?_; (case hd => rfl); (case hg => rfl); (case hr => first | (go_simp; done) | (go_simp; rfl)); intro gb158 hg w2 hbox hb; have n0_ := Aside0.mk (below_step bw hb); have n1_ := Aside0.mk (hbox); have n2_ := Aside0.mk ((by rw [hg]; exact (below_size bw) : w.heap.size ≤ gb158)); have n3_ := Aside0.mk ((by rw [hg]; exact (below_size bw) : w.heap.size ≤ gb158)); clear HB; have HB := n0_; have BK158 := n1_; have GW158 := n2_; have GE158 := n3_; clear n0_ n1_ n2_ n3_; clear hb hbox hg))
 go_loopg [5, 6] k (fun kq v5 v6 w' => ∃ (x5_1 : List Int) (x6_1 : Int) (x159000_1 : Int) (x159001_1 : ByteArray), v6 = .int .i64 x6_1 ∧ Aside0 (lex_quoted.l0 kq a0 x5_1 x6_1 = some (r1, r2, r3, r4)) ∧ Aside0 (kq ≤ k) ∧ Aside0 (Kd.R (Kd.int .u8) 5 w' w.heap.size (fun _ => True) v5 x5_1) ∧ Aside0 (w'.heap[gb158]? = some (.cells #[.int .i64 x159000_1, .string x159001_1] 160 (0, 0))) ∧ Aside0 (Below w.heap.size w w'))
 case atStart => exact ⟨(([] : List Int)), (1), (0), ((⟨#[]⟩ : ByteArray)), cl, H', ⟨Nat.le_refl _⟩, ⟨by first | exact Kd.R_nil _ _ _ _ _ | exact Kd.N_nil _ _ _ _ _ | exact Kd.V_nil _ _ _ _ _ | exact Kd.Q_nil _ _ _ _ _ | exact Kd.S_nil _ _ _ _ _⟩, ⟨bk⟩, ⟨bwS⟩⟩
 case round =>
  clear H'
  try clear c1
  try clear p2
  obtain ⟨x5_1, x6_1, x159000_1, x159001_1, rfl, HA, HK1, HO_5, BK158, HB⟩ := hrel; cases gk with
  | zero => exact absurd HA.out (by simp [lex_quoted.l0])
  | succ k1 =>
   have H := HA.out; clear HA; simp only [lex_quoted.l0] at H
   by_cases c3 : x6_1 < (a0.size : Int)
   ·rw [if_pos c3] at H; have c3b0 : decide (x6_1 < (a0.size : Int)) = true := decide_eq_true c3; clear c3
    by_cases c4 : 0 ≤ x6_1
    ·rw [if_pos c4] at H; have c4b0 : decide (0 ≤ x6_1) = true := decide_eq_true c4; clear c4; have c6b0 := eq_true (od : 0 ≤ x6_1)
     by_cases c7 : x6_1 ≤ (a0.size : Int)
     ·rw [if_pos c7] at H; have c7b0 := eq_true c7; have c7b1 : decide (x6_1 ≤ (a0.size : Int)) = true := decide_eq_true c7; clear c7; replace H := Option.bind_eq_some_iff.mp H; obtain ⟨t159, A80, H⟩ := H; replace H : (if t159 = true then (lex_quoted.l0 k1 a0 x5_1 (wrap64 ((wrap64 (x6_1 + 1)) + 1))) else (if (bt a0 x6_1) = 92 then (if 0 ≤ (wrap64 (x6_1 + 1)) then (if (wrap64 (x6_1 + 1)) ≤ (a0.size : Int) then ((lex_escaped.f (a0.extract ((wrap64 (x6_1 + 1)) : Int).toNat a0.size)).bind fun t160 => (if t160 = 0 then (if (wrap64 (x6_1 + 1)) < (a0.size : Int) then (if x5_1.length < 140737488355328 then (lex_quoted.l0 k1 a0 (x5_1 ++ [bt a0 (wrap64 (x6_1 + 1))]) (wrap64 ((wrap64 (x6_1 + 1)) + 1))) else (none)) else (none)) else (some (0, (⟨#[]⟩ : ByteArray), (⟨#[]⟩ : ByteArray), t160)))) else (none)) else (none)) else (if (bt a0 x6_1) = 34 then (if 0 ≤ (wrap64 (x6_1 + 1)) then (if (wrap64 (x6_1 + 1)) ≤ (a0.size : Int) then (some (2, strOfNums x5_1, a0.extract ((wrap64 (x6_1 + 1)) : Int).toNat a0.size, 0)) else (none)) else (none)) else ((lex_text.f (bt a0 x6_1)).bind fun t164 => (if t164 = true then (if x5_1.length < 140737488355328 then (lex_quoted.l0 k1 a0 (x5_1 ++ [bt a0 x6_1]) (wrap64 (x6_1 + 1))) else (none)) else (some (0, (⟨#[]⟩ : ByteArray), (⟨#[]⟩ : ByteArray), 3))))))) = some (r1, r2, r3, r4) := H; have A8 := Aside0.mk A80; clear A80
      by_cases c9 : t159 = true
      ·subst c9; have H1 : (lex_quoted.l0 k1 a0 x5_1 (wrap64 ((wrap64 (x6_1 + 1)) + 1))) = some (r1, r2, r3, r4) := by rw [if_pos rfl] at H; exact H
       clear H; have H := H1; clear H1; have H' := Aside0.mk H; clear H; have p5 : 0 ≤ (x6_1 : Int) := od; have q5 : x6_1 < (a0.size : Int) := od; have hx5 := bt_at a0 x6_1; replace p5 := eq_true p5; replace q5 := eq_true q5
       go_wp2_with (first | ((with_reducible refine gate_callee (f := 134) rfl ?_); refine goesL_ (some 26) rfl rfl Tryz.func134 (by kernel_rfl) rfl #[.string (a0.extract (x6_1 : Int).toNat a0.size)] rfl am ?_; (with_reducible refine (lex_fold.calls (a0.extract (x6_1 : Int).toNat a0.size) true _ A8.out).mono ?_); rintro e w' ⟨rfl, ⟨nd, rfl⟩⟩; refine ⟨_, rfl, ?_⟩))
       go_roundg k1
       case measure => have := HK1.out; omega
       case rel => exact ⟨(x5_1), (wrap64 ((wrap64 (x6_1 + 1)) + 1)), (x159000_1), (x159001_1), cl, H', ⟨by have := HK1.out; omega⟩, ⟨by (with_reducible repeat (first | apply Kd.R_alloc | apply Kd.R_drewN | apply Kd.R_drew)); exact HO_5.out⟩, ⟨bk⟩, ⟨bwS⟩⟩
      ·replace c9 := Bool.eq_false_iff.mpr c9; subst c9; have H1 : (if (bt a0 x6_1) = 92 then (if 0 ≤ (wrap64 (x6_1 + 1)) then (if (wrap64 (x6_1 + 1)) ≤ (a0.size : Int) then ((lex_escaped.f (a0.extract ((wrap64 (x6_1 + 1)) : Int).toNat a0.size)).bind fun t160 => (if t160 = 0 then (if (wrap64 (x6_1 + 1)) < (a0.size : Int) then (if x5_1.length < 140737488355328 then (lex_quoted.l0 k1 a0 (x5_1 ++ [bt a0 (wrap64 (x6_1 + 1))]) (wrap64 ((wrap64 (x6_1 + 1)) + 1))) else (none)) else (none)) else (some (0, (⟨#[]⟩ : ByteArray), (⟨#[]⟩ : ByteArray), t160)))) else (none)) else (none)) else (if (bt a0 x6_1) = 34 then (if 0 ≤ (wrap64 (x6_1 + 1)) then (if (wrap64 (x6_1 + 1)) ≤ (a0.size : Int) then (some (2, strOfNums x5_1, a0.extract ((wrap64 (x6_1 + 1)) : Int).toNat a0.size, 0)) else (none)) else (none)) else ((lex_text.f (bt a0 x6_1)).bind fun t164 => (if t164 = true then (if x5_1.length < 140737488355328 then (lex_quoted.l0 k1 a0 (x5_1 ++ [bt a0 x6_1]) (wrap64 (x6_1 + 1))) else (none)) else (some (0, (⟨#[]⟩ : ByteArray), (⟨#[]⟩ : ByteArray), 3)))))) = some (r1, r2, r3, r4) := by rw [if_neg (show ¬ (false = true) by decide)] at H; exact H
       clear H; have H := H1; clear H1
       by_cases c10 : (bt a0 x6_1) = 92
       ·rw [if_pos c10] at H; have c10b0 : ((bt a0 x6_1) == 92) = true := beq_iff_eq.mpr c10; have c10b1 : ((bt a0 x6_1) != 92) = false := bne_eq_false_iff_eq.mpr c10; clear c10; obtain ⟨ji11, hji11⟩ : ∃ j_ : Int, (wrap64 (x6_1 + 1)) = j_ := ⟨_, rfl⟩
        replace H : (if 0 ≤ (ji11) then (if (ji11) ≤ (a0.size : Int) then ((lex_escaped.f (a0.extract ((ji11) : Int).toNat a0.size)).bind fun t160 => (if t160 = 0 then (if (ji11) < (a0.size : Int) then (if x5_1.length < 140737488355328 then (lex_quoted.l0 k1 a0 (x5_1 ++ [bt a0 (ji11)]) (wrap64 ((ji11) + 1))) else (none)) else (none)) else (some (0, (⟨#[]⟩ : ByteArray), (⟨#[]⟩ : ByteArray), t160)))) else (none)) else (none)) = some (r1, r2, r3, r4) := by first | (rw [hji11] at H; exact H) | (simp only [hji11] at H ⊢; exact H)
        (try rw [hji11] at A8)
        have hji11w : (IntKind.i64.wrap (x6_1 + 1)) = ji11 := (i64_w _).trans hji11
        by_cases c12 : 0 ≤ (ji11)
        ·rw [if_pos c12] at H; have c12b0 := eq_true c12; have c12b1 : decide (0 ≤ (ji11)) = true := decide_eq_true c12; clear c12
         by_cases c13 : (ji11) ≤ (a0.size : Int)
         ·rw [if_pos c13] at H; have c13b0 := eq_true c13; have c13b1 : decide ((ji11) ≤ (a0.size : Int)) = true := decide_eq_true c13; clear c13; replace H := Option.bind_eq_some_iff.mp H; obtain ⟨t160, A140, H⟩ := H; replace H : (if t160 = 0 then (if (ji11) < (a0.size : Int) then (if x5_1.length < 140737488355328 then (lex_quoted.l0 k1 a0 (x5_1 ++ [bt a0 (ji11)]) (wrap64 ((ji11) + 1))) else (none)) else (none)) else (some (0, (⟨#[]⟩ : ByteArray), (⟨#[]⟩ : ByteArray), t160))) = some (r1, r2, r3, r4) := H; have A14 := Aside0.mk A140; clear A140
          by_cases c15 : t160 = 0
          ·rw [if_pos c15] at H; have c15b0 : (t160 == 0) = true := beq_iff_eq.mpr c15; have c15b1 : (t160 != 0) = false := bne_eq_false_iff_eq.mpr c15; clear c15
           by_cases c16 : (ji11) < (a0.size : Int)
           ·rw [if_pos c16] at H; have c16b0 : decide ((ji11) < (a0.size : Int)) = true := decide_eq_true c16; clear c16
            by_cases c18 : x5_1.length < 140737488355328
            ·rw [if_pos c18] at H; have LMc18 := Aside0.mk c18; clear c18; obtain ⟨y161, hy161⟩ : ∃ y_ : List Int, y_ = (x5_1 ++ [bt a0 (ji11)]) := ⟨_, rfl⟩
             replace H : (lex_quoted.l0 k1 a0 y161 (wrap64 ((ji11) + 1))) = some (r1, r2, r3, r4) := by first | (rw [hy161]; with_reducible exact H) | (have H2_ := (Option.bind_some _ _).symm.trans H; rw [hy161]; with_reducible exact H2_) | (have H2_ := (Option.bind_some _ _).symm.trans H; with_reducible exact H2_) | with_reducible exact H | (rw [hy161]; exact H) | exact H
             have Ny161 := Aside0.mk hy161; clear hy161; have H' := Aside0.mk H; clear H; have p5 : 0 ≤ (x6_1 : Int) := od; have q5 : x6_1 < (a0.size : Int) := od; have hx5 := bt_at a0 x6_1; replace p5 := eq_true p5; replace q5 := eq_true q5
             go_wp2_with (first | ((with_reducible refine gate_callee (f := 134) rfl ?_); refine goesL_ (some 26) rfl rfl Tryz.func134 (by kernel_rfl) rfl #[.string (a0.extract (x6_1 : Int).toNat a0.size)] rfl am ?_; (with_reducible refine (lex_fold.calls (a0.extract (x6_1 : Int).toNat a0.size) false _ A8.out).mono ?_); rintro e w' ⟨rfl, ⟨nd, rfl⟩⟩; refine ⟨_, rfl, ?_⟩) | ((with_reducible refine gate_callee (f := 145) rfl ?_); refine goesL_ (some 37) rfl rfl Tryz.func145 (by kernel_rfl) rfl #[.string (a0.extract ((ji11) : Int).toNat a0.size)] rfl (by (try simp only [List.map_toArray, List.map_cons, List.map_nil]); first | done | (simp only [hji11]; rfl) | rfl | (simp only [List.length_drop, List.length_take]; rfl)) ?_; (with_reducible refine (lex_escaped.calls (a0.extract ((ji11) : Int).toNat a0.size) t160 _ A14.out).mono ?_); rintro e w' ⟨rfl, ⟨nd, rfl⟩⟩; refine ⟨_, rfl, ?_⟩; have p17 : 0 ≤ ((ji11) : Int) := od; have q17 : (ji11) < (a0.size : Int) := od; have hx17 := bt_at a0 (ji11); replace p17 := eq_true p17; replace q17 := eq_true q17) | ((with_reducible refine gate_builtin (b := .append) (xs := #[.tmp 42, .tmp 46]) rfl ?_); at_builtin; refine Kd.R_append (Kd.int .u8) (w0 := w) w.heap.size rfl (.tmp 42) (.tmp 46) 47 5 (.int .u8 0) 1 rfl Tryz.underlying47 info5 rfl (by decide) (by omega) u5 x5_1 (bt a0 (ji11)) [.int .u8 (bt a0 (ji11))] (fun _ => True) (fun _ => False) rfl rfl ?aP (fun _ hk => hk.elim) ?aF ?aO ?aB ?aS ?aL ?_; (case aP => exact rfl); (case aB => exact bwS); (case aF => exact (fun _ _ => trivial)); (case aO => exact (ra HO_5.out)); (case aS => exact (below_size bwS)); (case aL => have := LMc18.out; omega); intro v162 w19 ho hb hg hat; rw [← Ny161.out] at ho; have n0_ := Aside0.mk (blk_grown (g := gb158) (o := .cells #[.int .i64 x159000_1, .string x159001_1] 160 (0, 0)) bk hg (Kd.R_ne HO_5.out BK158.out (by decide))); have n1_ := Aside0.mk (hb); have n2_ := Aside0.mk (ho); clear BK158; clear HB; clear HO_5; have BK158 := n0_; have HB := n1_; have HO163 := n2_; clear n0_ n1_ n2_; clear ho hb hg hat))
             go_roundg k1
             case measure => have := HK1.out; omega
             case rel => exact ⟨(y161), (wrap64 ((ji11) + 1)), (x159000_1), (x159001_1), (by first | rfl | (simp; done) | (simp only [← hji11] <;> (first | rfl | simp)) | (simp [*]; done) | (simp [nil_ne]; done)), H', ⟨by have := HK1.out; omega⟩, ⟨by (with_reducible repeat (first | apply Kd.R_alloc | apply Kd.R_drewN | apply Kd.R_drew)); exact HO163.out⟩, ⟨bk⟩, ⟨bwS⟩⟩
            ·rw [if_neg c18] at H; exact absurd H (by simp)
           ·rw [if_neg c16] at H; exact absurd H (by simp)
          ·rw [if_neg c15] at H; have c15b0 : (t160 == 0) = false := beq_eq_false_iff_ne.mpr c15; have c15b1 : (t160 != 0) = true := bne_iff_ne.mpr c15; simp only [Option.some.injEq, Prod.mk.injEq] at H; obtain ⟨rfl, rfl, rfl, rfl⟩ := H; have p5 : 0 ≤ (x6_1 : Int) := od; have q5 : x6_1 < (a0.size : Int) := od; have hx5 := bt_at a0 x6_1; replace p5 := eq_true p5; replace q5 := eq_true q5
           go_wp2_with (first | ((with_reducible refine gate_callee (f := 134) rfl ?_); refine goesL_ (some 26) rfl rfl Tryz.func134 (by kernel_rfl) rfl #[.string (a0.extract (x6_1 : Int).toNat a0.size)] rfl am ?_; (with_reducible refine (lex_fold.calls (a0.extract (x6_1 : Int).toNat a0.size) false _ A8.out).mono ?_); rintro e w' ⟨rfl, ⟨nd, rfl⟩⟩; refine ⟨_, rfl, ?_⟩; (try (rw [drewN_self wr]; generalize hq_ : World.drewN wr _ = wr; have n0_ : Aside0 (Kd.R (Kd.int .u8) 5 wr w.heap.size (fun _ => True) u5 x5_1) := ⟨by rw [← hq_]; exact (ra HO_5.out)⟩; have n1_ : Aside0 (wr.heap[gb158]? = some (.cells #[.int .i64 x159000_1, .string x159001_1] 160 (0, 0))) := ⟨by rw [← hq_]; exact bk⟩; have n2_ : Aside0 (Below w.heap.size w wr) := ⟨by rw [← hq_]; exact bwS⟩; clear HO_5 BK158 HB hq_; have HO_5 := n0_; have BK158 := n1_; have HB := n2_; clear n0_ n1_ n2_))) | ((with_reducible refine gate_callee (f := 145) rfl ?_); refine goesL_ (some 37) rfl rfl Tryz.func145 (by kernel_rfl) rfl #[.string (a0.extract ((ji11) : Int).toNat a0.size)] rfl (by (try simp only [List.map_toArray, List.map_cons, List.map_nil]); first | done | (simp only [hji11]; rfl) | rfl | (simp only [List.length_drop, List.length_take]; rfl)) ?_; (with_reducible refine (lex_escaped.calls (a0.extract ((ji11) : Int).toNat a0.size) t160 _ A14.out).mono ?_); rintro e w' ⟨rfl, ⟨nd, rfl⟩⟩; refine ⟨_, rfl, ?_⟩; (try (rw [drewN_self wr]; generalize hq_ : World.drewN wr _ = wr; have n0_ : Aside0 (Kd.R (Kd.int .u8) 5 wr w.heap.size (fun _ => True) u5 x5_1) := ⟨by rw [← hq_]; exact (ra HO_5.out)⟩; have n1_ : Aside0 (wr.heap[gb158]? = some (.cells #[.int .i64 x159000_1, .string x159001_1] 160 (0, 0))) := ⟨by rw [← hq_]; exact bk⟩; have n2_ : Aside0 (Below w.heap.size w wr) := ⟨by rw [← hq_]; exact bwS⟩; clear HO_5 BK158 HB hq_; have HO_5 := n0_; have BK158 := n1_; have HB := n2_; clear n0_ n1_ n2_)); have hcz20_0 : wr.cell? ⟨gb158, 0, none⟩ = some (.int .i64 x159000_1) := (blk_cell BK158.out 0).trans rfl; have hcz20_1 : wr.cell? ⟨gb158, 1, none⟩ = some (.string x159001_1) := (blk_cell BK158.out 1).trans rfl; have hfz20_0 := blk_frozen BK158.out 0; have hfz20_1 := blk_frozen BK158.out 1))
           refine bodyPost_ret (results_ctt rfl _ _ gb158 160 #[.int .i64 0, .string (⟨#[]⟩ : ByteArray)] (0, 0) _ rfl (by (with_reducible repeat (first | refine blk_drewN ?_ _ | refine blk_drew ?_ | refine blk_alloc ?_ _)); refine blk_put (cs := #[.int .i64 0, .string x159001_1]) ?_ 1 _ rfl; (with_reducible repeat (first | refine blk_drewN ?_ _ | refine blk_drew ?_ | refine blk_alloc ?_ _)); exact blk_put (cs := #[.int .i64 x159000_1, .string x159001_1]) bk 0 _ rfl) Tryz.underlying160 rfl (by kernel_rfl)) rfl ?_; exact ⟨by first | rfl | (simp [errW_none, errW_some] <;> rfl) | (simp only [← hji11]; first | rfl | (simp [errW_none, errW_some] <;> rfl)) | (simp [*, errW_none, errW_some] <;> rfl), bwS⟩
         ·rw [if_neg c13] at H; exact absurd H (by simp)
        ·rw [if_neg c12] at H; exact absurd H (by simp)
       ·rw [if_neg c10] at H; have c10b0 : ((bt a0 x6_1) == 92) = false := beq_eq_false_iff_ne.mpr c10; have c10b1 : ((bt a0 x6_1) != 92) = true := bne_iff_ne.mpr c10
        by_cases c21 : (bt a0 x6_1) = 34
        ·rw [if_pos c21] at H; have c21b0 : ((bt a0 x6_1) == 34) = true := beq_iff_eq.mpr c21; have c21b1 : ((bt a0 x6_1) != 34) = false := bne_eq_false_iff_eq.mpr c21; clear c21; obtain ⟨ji22, hji22⟩ : ∃ j_ : Int, (wrap64 (x6_1 + 1)) = j_ := ⟨_, rfl⟩
         replace H : (if 0 ≤ (ji22) then (if (ji22) ≤ (a0.size : Int) then (some (2, strOfNums x5_1, a0.extract ((ji22) : Int).toNat a0.size, 0)) else (none)) else (none)) = some (r1, r2, r3, r4) := by first | (rw [hji22] at H; exact H) | (simp only [hji22] at H ⊢; exact H)
         (try rw [hji22] at A8)
         have hji22w : (IntKind.i64.wrap (x6_1 + 1)) = ji22 := (i64_w _).trans hji22
         by_cases c23 : 0 ≤ (ji22)
         ·rw [if_pos c23] at H; have c23b0 := eq_true c23; have c23b1 : decide (0 ≤ (ji22)) = true := decide_eq_true c23; clear c23
          by_cases c24 : (ji22) ≤ (a0.size : Int)
          ·rw [if_pos c24] at H; have c24b0 := eq_true c24; have c24b1 : decide ((ji22) ≤ (a0.size : Int)) = true := decide_eq_true c24; clear c24; simp only [Option.some.injEq, Prod.mk.injEq] at H; obtain ⟨rfl, rfl, rfl, rfl⟩ := H; have p5 : 0 ≤ (x6_1 : Int) := od; have q5 : x6_1 < (a0.size : Int) := od; have hx5 := bt_at a0 x6_1; replace p5 := eq_true p5; replace q5 := eq_true q5
           try go_wp2_with (first | ((with_reducible refine gate_callee (f := 134) rfl ?_); refine goesL_ (some 26) rfl rfl Tryz.func134 (by kernel_rfl) rfl #[.string (a0.extract (x6_1 : Int).toNat a0.size)] rfl am ?_; (with_reducible refine (lex_fold.calls (a0.extract (x6_1 : Int).toNat a0.size) false _ A8.out).mono ?_); rintro e w' ⟨rfl, ⟨nd, rfl⟩⟩; refine ⟨_, rfl, ?_⟩; (try (rw [drewN_self wr]; generalize hq_ : World.drewN wr _ = wr; have n0_ : Aside0 (Kd.R (Kd.int .u8) 5 wr w.heap.size (fun _ => True) u5 x5_1) := ⟨by rw [← hq_]; exact (ra HO_5.out)⟩; have n1_ : Aside0 (wr.heap[gb158]? = some (.cells #[.int .i64 x159000_1, .string x159001_1] 160 (0, 0))) := ⟨by rw [← hq_]; exact bk⟩; have n2_ : Aside0 (Below w.heap.size w wr) := ⟨by rw [← hq_]; exact bwS⟩; clear HO_5 BK158 HB hq_; have HO_5 := n0_; have BK158 := n1_; have HB := n2_; clear n0_ n1_ n2_))))
           have n0_ := Aside0.mk (Kd.R_drew HO_5.out); have n1_ := Aside0.mk (blk_drew BK158.out); have n2_ := Aside0.mk (below_drew1 HB.out); clear HO_5 BK158 HB; have HO_5 := n0_; have BK158 := n1_; have HB := n2_; clear n0_ n1_ n2_; have hcv26 := own_string (P := Tryz.prog) Tryz.underlying47 Tryz.underlying5 Tryz.underlying9 (Kd.own_of_R HO_5.out); refine start_conv (n := 10) (ds := [7]) #[false, false, false, false, false, false, false, false, false, false] (by kernel_rfl) rfl rfl hcv26 (fun hHeld => ?_); refine with_tabW lex_quoted.tab16 lex_quoted.bits16 (fun HT_ HW_ => ?_)
           generalize wr.drew = w25 at HO_5 BK158 HB hHeld ⊢
           refine pure_ (i := 0) (N := some 51) (v := ?_) (a' := ?_) (bitsL 10 1) rfl rfl (any_of HT_.out (by kernel_rfl)) (fun _ _ _ h => h) (Or.inl ⟨by rfl, ?_⟩) ?_ ?_; rotate_left
           ·intro w'; go_simp; with_reducible rfl
           rotate_left
           ·simp only [Act.put, List.setIfInBounds_toArray, List.set_cons_zero, List.set_cons_succ, i64_w, i32_w]; rfl
           refine take_ (i := 1) (N := some 52) (v := ?_) (a' := ?_) (bitsL 10 3) rfl rfl (take_ofW HT_.out HW_.out (by kernel_rfl)) (fun _ _ _ h => h) (Or.inl ⟨by rfl, ?_⟩) hHeld ?_ ?_; rotate_left
           ·intro w' s0; go_simp; with_reducible rfl
           rotate_left
           ·simp only [Act.put, List.setIfInBounds_toArray, List.set_cons_zero, List.set_cons_succ, i64_w, i32_w]; rfl
           refine pure_ (i := 2) (N := some 53) (v := ?_) (a' := ?_) (bitsL 10 7) rfl rfl (any_of HT_.out (by kernel_rfl)) (fun _ _ _ h => h) (Or.inl ⟨by rfl, ?_⟩) ?_ ?_; rotate_left
           ·intro w'; go_simp; with_reducible rfl
           rotate_left
           ·simp only [Act.put, List.setIfInBounds_toArray, List.set_cons_zero, List.set_cons_succ, i64_w, i32_w]; rfl
           refine pure_ (i := 3) (N := some 54) (v := ?_) (a' := ?_) (bitsL 10 15) rfl rfl (any_of HT_.out (by kernel_rfl)) (fun _ _ _ h => h) (Or.inl ⟨by rfl, ?_⟩) ?_ ?_; rotate_left
           ·intro w'; go_simp; with_reducible rfl
           rotate_left
           ·simp only [Act.put, List.setIfInBounds_toArray, List.set_cons_zero, List.set_cons_succ, i64_w, i32_w]; rfl
           refine pure_ (i := 4) (N := some 55) (v := ?_) (a' := ?_) (bitsL 10 31) rfl rfl (any_of HT_.out (by kernel_rfl)) (fun _ _ _ h => h) (Or.inl ⟨by rfl, ?_⟩) ?_ ?_; rotate_left
           ·intro w'; go_simp; with_reducible rfl
           rotate_left
           ·simp only [Act.put, List.setIfInBounds_toArray, List.set_cons_zero, List.set_cons_succ, i64_w, i32_w]; rfl
           refine pure_ (i := 5) (N := some 56) (v := ?_) (a' := ?_) (bitsL 10 63) rfl rfl (any_of HT_.out (by kernel_rfl)) (fun _ _ _ h => h) (Or.inl ⟨by rfl, ?_⟩) ?_ ?_; rotate_left
           ·intro w'; go_simp; with_reducible rfl
           rotate_left
           ·simp only [Act.put, List.setIfInBounds_toArray, List.set_cons_zero, List.set_cons_succ, i64_w, i32_w]; rfl
           refine pure_ (i := 6) (N := some 57) (v := ?_) (a' := ?_) (bitsL 10 127) rfl rfl (any_of HT_.out (by kernel_rfl)) (fun _ _ _ h => h) (Or.inl ⟨by rfl, ?_⟩) ?_ ?_; rotate_left
           ·intro w'; go_simp; with_reducible rfl
           rotate_left
           ·simp only [Act.put, List.setIfInBounds_toArray, List.set_cons_zero, List.set_cons_succ, i64_w, i32_w]; rfl
           refine last_ (i := 7) (N := none) (bitsL 10 255) rfl rfl (one_of HT_.out (by kernel_rfl)) (by decide) (fun K hK => ?_); have hs27 : w25.cell? ⟨gb158, 0, none⟩ = some (.int .i64 x159000_1) := (blk_cell BK158.out 0).trans rfl; have hfs27 := blk_frozen BK158.out 0; have hs28 : w25.cell? ⟨gb158, 1, none⟩ = some (.string x159001_1) := (blk_cell BK158.out 1).trans rfl; have hfs28 := blk_frozen BK158.out 1; refine skip_ (w1 := ?_) (by rfl) rfl ?_ ?_; rotate_left
           ·go_simp; rfl
           refine hK.out _ _ ?_; clear hK K; refine pure_ (i := 8) (N := some 3) (v := ?_) (a' := ?_) (bitsL 10 511) rfl rfl (any_of HT_.out (by kernel_rfl)) (fun _ _ _ h => h) (Or.inl ⟨by rfl, ?_⟩) ?_ ?_; rotate_left
           ·intro w'; go_simp; with_reducible rfl
           rotate_left
           ·simp only [Act.put, List.setIfInBounds_toArray, List.set_cons_zero, List.set_cons_succ, i64_w, i32_w]; rfl
           refine pure_ (i := 9) (N := some 4) (v := ?_) (a' := ?_) (bitsL 10 1023) rfl rfl (any_of HT_.out (by kernel_rfl)) (fun _ _ _ h => h) (Or.inl ⟨by rfl, ?_⟩) ?_ ?_; rotate_left
           ·intro w'; go_simp; with_reducible rfl
           rotate_left
           ·simp only [Act.put, List.setIfInBounds_toArray, List.set_cons_zero, List.set_cons_succ, i64_w, i32_w]; rfl
           refine done_ (done_of HT_.out (by kernel_rfl)) ?_
           try go_wp2
           refine bodyPost_ret (results_ctt rfl _ _ gb158 160 #[.int .i64 2, .string (strOfNums x5_1)] (0, 0) _ rfl (by (with_reducible repeat (first | refine blk_drewN ?_ _ | refine blk_drew ?_ | refine blk_alloc ?_ _)); refine blk_put (cs := #[.int .i64 2, .string x159001_1]) ?_ 1 _ rfl; (with_reducible repeat (first | refine blk_drewN ?_ _ | refine blk_drew ?_ | refine blk_alloc ?_ _)); exact blk_put (cs := #[.int .i64 x159000_1, .string x159001_1]) bk 0 _ rfl) Tryz.underlying160 rfl (by kernel_rfl)) rfl ?_; exact ⟨by first | rfl | (simp [errW_none, errW_some] <;> rfl) | (simp only [← hji22]; first | rfl | (simp [errW_none, errW_some] <;> rfl)) | (simp [*, errW_none, errW_some] <;> rfl), bwS⟩
          ·rw [if_neg c24] at H; exact absurd H (by simp)
         ·rw [if_neg c23] at H; exact absurd H (by simp)
        ·rw [if_neg c21] at H; have c21b0 : ((bt a0 x6_1) == 34) = false := beq_eq_false_iff_ne.mpr c21; have c21b1 : ((bt a0 x6_1) != 34) = true := bne_iff_ne.mpr c21; replace H := Option.bind_eq_some_iff.mp H; obtain ⟨t164, A290, H⟩ := H; replace H : (if t164 = true then (if x5_1.length < 140737488355328 then (lex_quoted.l0 k1 a0 (x5_1 ++ [bt a0 x6_1]) (wrap64 (x6_1 + 1))) else (none)) else (some (0, (⟨#[]⟩ : ByteArray), (⟨#[]⟩ : ByteArray), 3))) = some (r1, r2, r3, r4) := H; have A29 := Aside0.mk A290; clear A290
         by_cases c30 : t164 = true
         ·subst c30; have H1 : (if x5_1.length < 140737488355328 then (lex_quoted.l0 k1 a0 (x5_1 ++ [bt a0 x6_1]) (wrap64 (x6_1 + 1))) else (none)) = some (r1, r2, r3, r4) := by rw [if_pos rfl] at H; exact H
          clear H; have H := H1; clear H1
          by_cases c31 : x5_1.length < 140737488355328
          ·rw [if_pos c31] at H; have LMc31 := Aside0.mk c31; clear c31; obtain ⟨y165, hy165⟩ : ∃ y_ : List Int, y_ = (x5_1 ++ [bt a0 x6_1]) := ⟨_, rfl⟩
           replace H : (lex_quoted.l0 k1 a0 y165 (wrap64 (x6_1 + 1))) = some (r1, r2, r3, r4) := by first | (rw [hy165]; with_reducible exact H) | (have H2_ := (Option.bind_some _ _).symm.trans H; rw [hy165]; with_reducible exact H2_) | (have H2_ := (Option.bind_some _ _).symm.trans H; with_reducible exact H2_) | with_reducible exact H | (rw [hy165]; exact H) | exact H
           have Ny165 := Aside0.mk hy165; clear hy165; have H' := Aside0.mk H; clear H; have p5 : 0 ≤ (x6_1 : Int) := od; have q5 : x6_1 < (a0.size : Int) := od; have hx5 := bt_at a0 x6_1; replace p5 := eq_true p5; replace q5 := eq_true q5
           go_wp2_with (first | ((with_reducible refine gate_callee (f := 134) rfl ?_); refine goesL_ (some 26) rfl rfl Tryz.func134 (by kernel_rfl) rfl #[.string (a0.extract (x6_1 : Int).toNat a0.size)] rfl am ?_; (with_reducible refine (lex_fold.calls (a0.extract (x6_1 : Int).toNat a0.size) false _ A8.out).mono ?_); rintro e w' ⟨rfl, ⟨nd, rfl⟩⟩; refine ⟨_, rfl, ?_⟩) | ((with_reducible refine gate_callee (f := 146) rfl ?_); refine goesL_ (some 60) rfl rfl Tryz.func146 (by kernel_rfl) rfl #[.int .u8 (bt a0 x6_1)] rfl am ?_; (with_reducible refine (lex_text.calls (bt a0 x6_1) true _ A29.out).mono ?_); rintro e w' ⟨rfl, ⟨nd, rfl⟩⟩; refine ⟨_, rfl, ?_⟩) | ((with_reducible refine gate_builtin (b := .append) (xs := #[.tmp 18, .tmp 20]) rfl ?_); at_builtin; refine Kd.R_append (Kd.int .u8) (w0 := w) w.heap.size rfl (.tmp 18) (.tmp 20) 47 5 (.int .u8 0) 1 rfl Tryz.underlying47 info5 rfl (by decide) (by omega) u5 x5_1 (bt a0 x6_1) [.int .u8 (bt a0 x6_1)] (fun _ => True) (fun _ => False) rfl rfl ?aP (fun _ hk => hk.elim) ?aF ?aO ?aB ?aS ?aL ?_; (case aP => exact rfl); (case aB => exact bwS); (case aF => exact (fun _ _ => trivial)); (case aO => exact (ra HO_5.out)); (case aS => exact (below_size bwS)); (case aL => have := LMc31.out; omega); intro v166 w32 ho hb hg hat; rw [← Ny165.out] at ho; have n0_ := Aside0.mk (blk_grown (g := gb158) (o := .cells #[.int .i64 x159000_1, .string x159001_1] 160 (0, 0)) bk hg (Kd.R_ne HO_5.out BK158.out (by decide))); have n1_ := Aside0.mk (hb); have n2_ := Aside0.mk (ho); clear BK158; clear HB; clear HO_5; have BK158 := n0_; have HB := n1_; have HO167 := n2_; clear n0_ n1_ n2_; clear ho hb hg hat))
           go_roundg k1
           case measure => have := HK1.out; omega
           case rel => exact ⟨(y165), (wrap64 (x6_1 + 1)), (x159000_1), (x159001_1), cl, H', ⟨by have := HK1.out; omega⟩, ⟨by (with_reducible repeat (first | apply Kd.R_alloc | apply Kd.R_drewN | apply Kd.R_drew)); exact HO167.out⟩, ⟨bk⟩, ⟨bwS⟩⟩
          ·rw [if_neg c31] at H; exact absurd H (by simp)
         ·replace c30 := Bool.eq_false_iff.mpr c30; subst c30; have H1 : (some (0, (⟨#[]⟩ : ByteArray), (⟨#[]⟩ : ByteArray), 3)) = some (r1, r2, r3, r4) := by rw [if_neg (show ¬ (false = true) by decide)] at H; exact H
          clear H; have H := H1; clear H1; simp only [Option.some.injEq, Prod.mk.injEq] at H; obtain ⟨rfl, rfl, rfl, rfl⟩ := H; have p5 : 0 ≤ (x6_1 : Int) := od; have q5 : x6_1 < (a0.size : Int) := od; have hx5 := bt_at a0 x6_1; replace p5 := eq_true p5; replace q5 := eq_true q5
          go_wp2_with (first | ((with_reducible refine gate_callee (f := 134) rfl ?_); refine goesL_ (some 26) rfl rfl Tryz.func134 (by kernel_rfl) rfl #[.string (a0.extract (x6_1 : Int).toNat a0.size)] rfl am ?_; (with_reducible refine (lex_fold.calls (a0.extract (x6_1 : Int).toNat a0.size) false _ A8.out).mono ?_); rintro e w' ⟨rfl, ⟨nd, rfl⟩⟩; refine ⟨_, rfl, ?_⟩; (try (rw [drewN_self wr]; generalize hq_ : World.drewN wr _ = wr; have n0_ : Aside0 (Kd.R (Kd.int .u8) 5 wr w.heap.size (fun _ => True) u5 x5_1) := ⟨by rw [← hq_]; exact (ra HO_5.out)⟩; have n1_ : Aside0 (wr.heap[gb158]? = some (.cells #[.int .i64 x159000_1, .string x159001_1] 160 (0, 0))) := ⟨by rw [← hq_]; exact bk⟩; have n2_ : Aside0 (Below w.heap.size w wr) := ⟨by rw [← hq_]; exact bwS⟩; clear HO_5 BK158 HB hq_; have HO_5 := n0_; have BK158 := n1_; have HB := n2_; clear n0_ n1_ n2_))) | ((with_reducible refine gate_callee (f := 146) rfl ?_); refine goesL_ (some 60) rfl rfl Tryz.func146 (by kernel_rfl) rfl #[.int .u8 (bt a0 x6_1)] rfl am ?_; (with_reducible refine (lex_text.calls (bt a0 x6_1) false _ A29.out).mono ?_); rintro e w' ⟨rfl, ⟨nd, rfl⟩⟩; refine ⟨_, rfl, ?_⟩; (try (rw [drewN_self wr]; generalize hq_ : World.drewN wr _ = wr; have n0_ : Aside0 (Kd.R (Kd.int .u8) 5 wr w.heap.size (fun _ => True) u5 x5_1) := ⟨by rw [← hq_]; exact (ra HO_5.out)⟩; have n1_ : Aside0 (wr.heap[gb158]? = some (.cells #[.int .i64 x159000_1, .string x159001_1] 160 (0, 0))) := ⟨by rw [← hq_]; exact bk⟩; have n2_ : Aside0 (Below w.heap.size w wr) := ⟨by rw [← hq_]; exact bwS⟩; clear HO_5 BK158 HB hq_; have HO_5 := n0_; have BK158 := n1_; have HB := n2_; clear n0_ n1_ n2_)); have hcz33_0 : wr.cell? ⟨gb158, 0, none⟩ = some (.int .i64 x159000_1) := (blk_cell BK158.out 0).trans rfl; have hcz33_1 : wr.cell? ⟨gb158, 1, none⟩ = some (.string x159001_1) := (blk_cell BK158.out 1).trans rfl; have hfz33_0 := blk_frozen BK158.out 0; have hfz33_1 := blk_frozen BK158.out 1))
          refine bodyPost_ret (results_ctt rfl _ _ gb158 160 #[.int .i64 0, .string (⟨#[]⟩ : ByteArray)] (0, 0) _ rfl (by (with_reducible repeat (first | refine blk_drewN ?_ _ | refine blk_drew ?_ | refine blk_alloc ?_ _)); refine blk_put (cs := #[.int .i64 0, .string x159001_1]) ?_ 1 _ rfl; (with_reducible repeat (first | refine blk_drewN ?_ _ | refine blk_drew ?_ | refine blk_alloc ?_ _)); exact blk_put (cs := #[.int .i64 x159000_1, .string x159001_1]) bk 0 _ rfl) Tryz.underlying160 rfl (by kernel_rfl)) rfl ?_; exact ⟨ew, bwS⟩
     ·rw [if_neg c7] at H; exact absurd H (by simp)
    ·rw [if_neg c4] at H; exact absurd H (by simp)
   ·rw [if_neg c3] at H; have c3b0 : decide (x6_1 < (a0.size : Int)) = false := decide_eq_false c3; clear c3; simp only [Option.some.injEq, Prod.mk.injEq] at H; obtain ⟨rfl, rfl, rfl, rfl⟩ := H; have hcz34_0 : wr.cell? ⟨gb158, 0, none⟩ = some (.int .i64 x159000_1) := (blk_cell BK158.out 0).trans rfl; have hcz34_1 : wr.cell? ⟨gb158, 1, none⟩ = some (.string x159001_1) := (blk_cell BK158.out 1).trans rfl; have hfz34_0 := blk_frozen BK158.out 0; have hfz34_1 := blk_frozen BK158.out 1
    go_wp2
    refine bodyPost_ret (results_ctt rfl _ _ gb158 160 #[.int .i64 0, .string (⟨#[]⟩ : ByteArray)] (0, 0) _ rfl (by (with_reducible repeat (first | refine blk_drewN ?_ _ | refine blk_drew ?_ | refine blk_alloc ?_ _)); refine blk_put (cs := #[.int .i64 0, .string x159001_1]) ?_ 1 _ rfl; (with_reducible repeat (first | refine blk_drewN ?_ _ | refine blk_drew ?_ | refine blk_alloc ?_ _)); exact blk_put (cs := #[.int .i64 x159000_1, .string x159001_1]) bk 0 _ rfl) Tryz.underlying160 rfl (by kernel_rfl)) rfl ?_; exact ⟨ew, bwS⟩

end Go.Proofs.YtbjbpgmjijeppaaGreatDoor.Fn
namespace Go.Proofs.YtbjbpgmjijeppaaGreatDoor.Fn
open Go.RowKit Go.Proofs.YtbjbpgmjijeppaaGreatDoorW.PrintWords Go.Proofs.YtbjbpgmjijeppaaGreatDoorW.PrintLast Go.Proofs.YtbjbpgmjijeppaaGreatDoorW.PrintMore
attribute [local go_sem] max2_int min2_int max_two min_two max_three min_three max_four min_four
set_option linter.unusedVariables false
set_option linter.unusedSimpArgs false

def lex_sign.f (a0 : Int) : Option (Bool) := (strings_IndexByte.f (⟨#[60, 62, 58, 59, 64, 44, 46]⟩ : ByteArray) a0).bind fun t168 => (some (decide (t168 ≥ 0)))
set_option maxHeartbeats 8000000 in
set_option maxRecDepth 100000 in
theorem lex_sign.calls (a0 : Int) (r : Bool) (w : World) (h : lex_sign.f a0 = some r) :
  Calls Tryz.prog 137 #[.int .u8 a0] w fun e w' => e = .returned (.bool r) ∧ Drawn0 w w' := by
 have H : ((strings_IndexByte.f (⟨#[60, 62, 58, 59, 64, 44, 46]⟩ : ByteArray) a0).bind fun t168 => (some (decide (t168 ≥ 0)))) = some r := h; clear h; replace H := Option.bind_eq_some_iff.mp H; obtain ⟨t168, A20, H⟩ := H; replace H : (some (decide (t168 ≥ 0))) = some r := H; have A2 := Aside0.mk A20; clear A20; obtain rfl := Option.some.inj H
 go_enter Tryz.func137, Tryz.ntmps137
 go_wp2_with (first | ((with_reducible refine gate_callee (f := 110) rfl ?_); refine goesL_ (some 4) rfl rfl Tryz.func110 (by kernel_rfl) rfl #[.string (⟨#[60, 62, 58, 59, 64, 44, 46]⟩ : ByteArray), .int .u8 a0] rfl am ?_; (with_reducible refine (strings_IndexByte.calls (⟨#[60, 62, 58, 59, 64, 44, 46]⟩ : ByteArray) a0 t168 _ A2.out).mono ?_); rintro e w' ⟨rfl, ⟨nd, rfl⟩⟩; refine ⟨_, rfl, ?_⟩))
 go_ret
 exact ⟨cl, d0⟩

end Go.Proofs.YtbjbpgmjijeppaaGreatDoor.Fn
namespace Go.Proofs.YtbjbpgmjijeppaaGreatDoor.Fn
open Go.RowKit Go.Proofs.YtbjbpgmjijeppaaGreatDoorW.PrintWords Go.Proofs.YtbjbpgmjijeppaaGreatDoorW.PrintLast Go.Proofs.YtbjbpgmjijeppaaGreatDoorW.PrintMore
attribute [local go_sem] max2_int min2_int max_two min_two max_three min_three max_four min_four
set_option linter.unusedVariables false
set_option linter.unusedSimpArgs false

def lex_next.l0 : Nat → ByteArray → Int → Option (Int × ByteArray × ByteArray × Int)
 | 0, _, _ => none
 | k + 1, x0, x8 => if x8 < (x0.size : Int) then (if 0 ≤ x8 then ((lex_atomic.f (bt x0 x8)).bind fun t187 => (if t187 = true then (lex_next.l0 k x0 (wrap64 (x8 + 1))) else (if x8 = 0 then (some (0, (⟨#[]⟩ : ByteArray), (⟨#[]⟩ : ByteArray), 3)) else (if x8 ≤ (x0.size : Int) then (some (1, x0.extract 0 (x8 : Int).toNat, x0.extract (x8 : Int).toNat x0.size, 0)) else (none))))) else (none)) else (if x8 = 0 then (some (0, (⟨#[]⟩ : ByteArray), (⟨#[]⟩ : ByteArray), 3)) else (if 0 ≤ x8 then (if x8 ≤ (x0.size : Int) then (some (1, x0.extract 0 (x8 : Int).toNat, x0.extract (x8 : Int).toNat x0.size, 0)) else (none)) else (none)))
def lex_next.f (k : Nat) (a0 : ByteArray) : Option (Int × ByteArray × ByteArray × Int) := if 0 < (a0.size : Int) then ((lex_white.f (bt a0 0)).bind fun t178 => (if t178 = true then (if 1 ≤ (a0.size : Int) then (some (0, (⟨#[]⟩ : ByteArray), a0.extract 1 a0.size, 0)) else (none)) else ((lex_fold.f a0).bind fun t179 => (if t179 = true then (if 2 ≤ (a0.size : Int) then (some (0, (⟨#[]⟩ : ByteArray), a0.extract 2 a0.size, 0)) else (none)) else (if (bt a0 0) = 40 then ((lex_comment.f k a0).bind fun bt180 => (some (0, (⟨#[]⟩ : ByteArray), bt180.1, bt180.2))) else (if (bt a0 0) = 34 then ((lex_quoted.f k a0).bind fun bt182 => (some (bt182.1, bt182.2.1, bt182.2.2.1, bt182.2.2.2))) else ((lex_sign.f (bt a0 0)).bind fun t186 => (if t186 = true then (if 0 ≤ 1 then (if 1 ≤ (a0.size : Int) then (some (3, a0.extract 0 1, a0.extract 1 a0.size, 0)) else (none)) else (none)) else (lex_next.l0 k a0 0))))))))) else (none)
def lex_next.T12 : Bool × List (List Nat × List Nat) := (true, [([], []), ([0], [0]), ([1], [1]), ([], []), ([3], [3]), ([2, 0, 1, 2], [2]), ([4, 5, 0, 1, 2, 3, 4, 5], [4]), ([6, 0, 1, 2, 3, 4, 5, 6], [])])
def lex_next.B12 : List Nat := [0, 1, 3, 0, 8, 7, 63, 127]
theorem lex_next.tab12 : rtab .any (opsOf Tryz.f122 12) = lex_next.T12 := by kernel_rfl
theorem lex_next.bits12 : waitsOk lex_next.T12.2 lex_next.B12 = true := by kernel_rfl
def lex_next.T18 : Bool × List (List Nat × List Nat) := (true, [([], []), ([], []), ([0, 1], [0, 1]), ([2], [2]), ([], []), ([], []), ([4, 5], [4, 5]), ([3, 0, 1, 2, 3], [3]), ([6, 7, 0, 1, 2, 3, 4, 5, 6, 7], [6]), ([8, 0, 1, 2, 3, 4, 5, 6, 7, 8], [])])
def lex_next.B18 : List Nat := [0, 0, 3, 7, 0, 0, 48, 15, 255, 511]
theorem lex_next.tab18 : rtab .any (opsOf Tryz.f122 18) = lex_next.T18 := by kernel_rfl
theorem lex_next.bits18 : waitsOk lex_next.T18.2 lex_next.B18 = true := by kernel_rfl
set_option maxHeartbeats 8000000 in
set_option maxRecDepth 100000 in
theorem lex_next.calls (k : Nat) (a0 : ByteArray) (r1 : Int) (r2 : ByteArray) (r3 : ByteArray) (r4 : Int) (w : World) (h : lex_next.f k a0 = some (r1, r2, r3, r4)) :
  Calls Tryz.prog 122 #[.string a0] w fun e w' => e = .returned (.tuple #[.agg #[.int .i64 r1, .string r2], .string r3, .int .i64 r4]) ∧ Below w.heap.size w w' := by
 have hu160 := Tryz.underlying160; have HB := Aside0.mk (Below.refl w.heap.size w); have H : (if 0 < (a0.size : Int) then ((lex_white.f (bt a0 0)).bind fun t178 => (if t178 = true then (if 1 ≤ (a0.size : Int) then (some (0, (⟨#[]⟩ : ByteArray), a0.extract 1 a0.size, 0)) else (none)) else ((lex_fold.f a0).bind fun t179 => (if t179 = true then (if 2 ≤ (a0.size : Int) then (some (0, (⟨#[]⟩ : ByteArray), a0.extract 2 a0.size, 0)) else (none)) else (if (bt a0 0) = 40 then ((lex_comment.f k a0).bind fun bt180 => (some (0, (⟨#[]⟩ : ByteArray), bt180.1, bt180.2))) else (if (bt a0 0) = 34 then ((lex_quoted.f k a0).bind fun bt182 => (some (bt182.1, bt182.2.1, bt182.2.2.1, bt182.2.2.2))) else ((lex_sign.f (bt a0 0)).bind fun t186 => (if t186 = true then (if 0 ≤ 1 then (if 1 ≤ (a0.size : Int) then (some (3, a0.extract 0 1, a0.extract 1 a0.size, 0)) else (none)) else (none)) else (lex_next.l0 k a0 0))))))))) else (none)) = some (r1, r2, r3, r4) := h; clear h
 by_cases c2 : 0 < (a0.size : Int)
 ·rw [if_pos c2] at H; have c2b0 : decide (0 < (a0.size : Int)) = true := decide_eq_true c2; have c2b1 : decide (0 < a0.size) = true := decide_eq_true (by omega); clear c2; replace H := Option.bind_eq_some_iff.mp H; obtain ⟨t178, A40, H⟩ := H; replace H : (if t178 = true then (if 1 ≤ (a0.size : Int) then (some (0, (⟨#[]⟩ : ByteArray), a0.extract 1 a0.size, 0)) else (none)) else ((lex_fold.f a0).bind fun t179 => (if t179 = true then (if 2 ≤ (a0.size : Int) then (some (0, (⟨#[]⟩ : ByteArray), a0.extract 2 a0.size, 0)) else (none)) else (if (bt a0 0) = 40 then ((lex_comment.f k a0).bind fun bt180 => (some (0, (⟨#[]⟩ : ByteArray), bt180.1, bt180.2))) else (if (bt a0 0) = 34 then ((lex_quoted.f k a0).bind fun bt182 => (some (bt182.1, bt182.2.1, bt182.2.2.1, bt182.2.2.2))) else ((lex_sign.f (bt a0 0)).bind fun t186 => (if t186 = true then (if 0 ≤ 1 then (if 1 ≤ (a0.size : Int) then (some (3, a0.extract 0 1, a0.extract 1 a0.size, 0)) else (none)) else (none)) else (lex_next.l0 k a0 0)))))))) = some (r1, r2, r3, r4) := H; have A4 := Aside0.mk A40; clear A40
  by_cases c5 : t178 = true
  ·subst c5; have H1 : (if 1 ≤ (a0.size : Int) then (some (0, (⟨#[]⟩ : ByteArray), a0.extract 1 a0.size, 0)) else (none)) = some (r1, r2, r3, r4) := by rw [if_pos rfl] at H; exact H
   clear H; have H := H1; clear H1
   by_cases c6 : 1 ≤ (a0.size : Int)
   ·rw [if_pos c6] at H; have c6b0 := eq_true c6; have c6b1 : decide (1 ≤ (a0.size : Int)) = true := decide_eq_true c6; clear c6; simp only [Option.some.injEq, Prod.mk.injEq] at H; obtain ⟨rfl, rfl, rfl, rfl⟩ := H
    go_enter Tryz.func122, Tryz.ntmps122
    try go_wp2_with (first | ((with_reducible refine gate_dst (N := 2) rfl ?_); refine box_event ?hg (N := 2) ?hd (cs := #[.int .i64 0, .string (⟨#[]⟩ : ByteArray)]) (t := 160) ?hr ?_; (case hd => rfl); (case hg => rfl); (case hr => first | (go_simp; done) | (go_simp; rfl)); intro gb177 hg w7 hbox hb; have n0_ := Aside0.mk (below_step bw hb); have n1_ := Aside0.mk (hbox); have n2_ := Aside0.mk ((by rw [hg]; exact (below_size bw) : w.heap.size ≤ gb177)); have n3_ := Aside0.mk ((by rw [hg]; exact (below_size bw) : w.heap.size ≤ gb177)); clear HB; have HB := n0_; have BK177 := n1_; have GW177 := n2_; have GE177 := n3_; clear n0_ n1_ n2_ n3_; clear hb hbox hg; have p3 : 0 ≤ (0 : Int) := (by omega); have q3 : 0 < a0.size := (by have : (0 : Int) < (a0.size : Int) := od; omega); have hx3 : ∀ h : 0 < a0.size, ((a0[0]'h).toNat : Int) = bt a0 0 := bt_at a0 0; clear p3; have qi3 : (0 < (a0.size : Int)) = True := eq_true (od); replace q3 := eq_true q3) | ((with_reducible refine gate_callee (f := 133) rfl ?_); refine goesL_ (some 13) rfl rfl Tryz.func133 (by kernel_rfl) rfl #[.int .u8 (bt a0 0)] rfl am ?_; (with_reducible refine (lex_white.calls (bt a0 0) true _ A4.out).mono ?_); rintro e w' ⟨rfl, ⟨nd, rfl⟩⟩; refine ⟨_, rfl, ?_⟩; (try (rw [drewN_self w7]; generalize hq_ : World.drewN w7 _ = w7; have n0_ : Aside0 (w7.heap[gb177]? = some (.cells #[.int .i64 0, .string (⟨#[]⟩ : ByteArray)] 160 (0, 0))) := ⟨by rw [← hq_]; exact bk⟩; have n1_ : Aside0 (Below w.heap.size w w7) := ⟨by rw [← hq_]; exact bwS⟩; clear BK177 HB hq_; have BK177 := n0_; have HB := n1_; clear n0_ n1_))))
    have n0_ := Aside0.mk (blk_drew BK177.out); have n1_ := Aside0.mk (below_drew1 HB.out); clear BK177 HB; have BK177 := n0_; have HB := n1_; clear n0_ n1_; refine start_ (n := 6) (S := fun w' => True) (ds := []) #[false, false, false, false, false, false] (by kernel_rfl) rfl rfl trivial (fun hHeld => ?_); generalize w7.drew = w8 at BK177 HB hHeld ⊢
    refine pure_ (i := 0) (N := some 14) (v := ?_) (a' := ?_) #[true, false, false, false, false, false] rfl rfl (by kernel_rfl) (fun _ _ _ h => h) (Or.inl ⟨by rfl, ?_⟩) ?_ ?_; rotate_left
    ·intro w'; go_simp; with_reducible rfl
    rotate_left
    ·simp only [Act.put, List.setIfInBounds_toArray, List.set_cons_zero, List.set_cons_succ, i64_w, i32_w]; rfl
    refine pure_ (i := 1) (N := some 15) (v := ?_) (a' := ?_) #[true, true, false, false, false, false] rfl rfl (by kernel_rfl) (fun _ _ _ h => h) (Or.inl ⟨by rfl, ?_⟩) ?_ ?_; rotate_left
    ·intro w'; go_simp; with_reducible rfl
    rotate_left
    ·simp only [Act.put, List.setIfInBounds_toArray, List.set_cons_zero, List.set_cons_succ, i64_w, i32_w]; rfl
    refine pure_ (i := 2) (N := some 16) (v := ?_) (a' := ?_) #[true, true, true, false, false, false] rfl rfl (by kernel_rfl) (fun _ _ _ h => h) (Or.inl ⟨by rfl, ?_⟩) ?_ ?_; rotate_left
    ·intro w'; go_simp; with_reducible rfl
    rotate_left
    ·simp only [Act.put, List.setIfInBounds_toArray, List.set_cons_zero, List.set_cons_succ, i64_w, i32_w]; rfl
    refine one_ (i := 3) (N := none) #[true, true, true, true, false, false] rfl rfl (by kernel_rfl) (by decide) (fun K hK => ?_); have hs9 : w8.cell? ⟨gb177, 0, none⟩ = some (.int .i64 0) := (blk_cell BK177.out 0).trans rfl; have hfs9 := blk_frozen BK177.out 0; have hs10 : w8.cell? ⟨gb177, 1, none⟩ = some (.string (⟨#[]⟩ : ByteArray)) := (blk_cell BK177.out 1).trans rfl; have hfs10 := blk_frozen BK177.out 1; refine skip_ (w1 := ?_) (by rfl) rfl ?_ ?_; rotate_left
    ·go_simp; rfl
    refine hK.out _ _ trivial (fun hHeld => ?_); clear hK K; refine pure_ (i := 4) (N := some 3) (v := ?_) (a' := ?_) #[true, true, true, true, true, false] rfl rfl (by kernel_rfl) (fun _ _ _ h => h) (Or.inl ⟨by rfl, ?_⟩) ?_ ?_; rotate_left
    ·intro w'; go_simp; with_reducible rfl
    rotate_left
    ·simp only [Act.put, List.setIfInBounds_toArray, List.set_cons_zero, List.set_cons_succ, i64_w, i32_w]; rfl
    refine pure_ (i := 5) (N := some 4) (v := ?_) (a' := ?_) #[true, true, true, true, true, true] rfl rfl (by kernel_rfl) (fun _ _ _ h => h) (Or.inl ⟨by rfl, ?_⟩) ?_ ?_; rotate_left
    ·intro w'; go_simp; with_reducible rfl
    rotate_left
    ·simp only [Act.put, List.setIfInBounds_toArray, List.set_cons_zero, List.set_cons_succ, i64_w, i32_w]; rfl
    refine done_ (by kernel_rfl) ?_
    try go_wp2
    refine bodyPost_ret (results_ctt rfl _ _ gb177 160 #[.int .i64 0, .string (⟨#[]⟩ : ByteArray)] (0, 0) _ rfl (by (with_reducible repeat (first | refine blk_drewN ?_ _ | refine blk_drew ?_ | refine blk_alloc ?_ _)); refine blk_put (cs := #[.int .i64 0, .string (⟨#[]⟩ : ByteArray)]) ?_ 1 _ rfl; (with_reducible repeat (first | refine blk_drewN ?_ _ | refine blk_drew ?_ | refine blk_alloc ?_ _)); exact blk_put (cs := #[.int .i64 0, .string (⟨#[]⟩ : ByteArray)]) bk 0 _ rfl) Tryz.underlying160 rfl (by kernel_rfl)) rfl ?_; exact ⟨ew, bwS⟩
   ·rw [if_neg c6] at H; exact absurd H (by simp)
  ·replace c5 := Bool.eq_false_iff.mpr c5; subst c5; have H1 : ((lex_fold.f a0).bind fun t179 => (if t179 = true then (if 2 ≤ (a0.size : Int) then (some (0, (⟨#[]⟩ : ByteArray), a0.extract 2 a0.size, 0)) else (none)) else (if (bt a0 0) = 40 then ((lex_comment.f k a0).bind fun bt180 => (some (0, (⟨#[]⟩ : ByteArray), bt180.1, bt180.2))) else (if (bt a0 0) = 34 then ((lex_quoted.f k a0).bind fun bt182 => (some (bt182.1, bt182.2.1, bt182.2.2.1, bt182.2.2.2))) else ((lex_sign.f (bt a0 0)).bind fun t186 => (if t186 = true then (if 0 ≤ 1 then (if 1 ≤ (a0.size : Int) then (some (3, a0.extract 0 1, a0.extract 1 a0.size, 0)) else (none)) else (none)) else (lex_next.l0 k a0 0))))))) = some (r1, r2, r3, r4) := by rw [if_neg (show ¬ (false = true) by decide)] at H; exact H
   clear H; have H := H1; clear H1; replace H := Option.bind_eq_some_iff.mp H; obtain ⟨t179, A110, H⟩ := H; replace H : (if t179 = true then (if 2 ≤ (a0.size : Int) then (some (0, (⟨#[]⟩ : ByteArray), a0.extract 2 a0.size, 0)) else (none)) else (if (bt a0 0) = 40 then ((lex_comment.f k a0).bind fun bt180 => (some (0, (⟨#[]⟩ : ByteArray), bt180.1, bt180.2))) else (if (bt a0 0) = 34 then ((lex_quoted.f k a0).bind fun bt182 => (some (bt182.1, bt182.2.1, bt182.2.2.1, bt182.2.2.2))) else ((lex_sign.f (bt a0 0)).bind fun t186 => (if t186 = true then (if 0 ≤ 1 then (if 1 ≤ (a0.size : Int) then (some (3, a0.extract 0 1, a0.extract 1 a0.size, 0)) else (none)) else (none)) else (lex_next.l0 k a0 0)))))) = some (r1, r2, r3, r4) := H; have A11 := Aside0.mk A110; clear A110
   by_cases c12 : t179 = true
   ·subst c12; have H1 : (if 2 ≤ (a0.size : Int) then (some (0, (⟨#[]⟩ : ByteArray), a0.extract 2 a0.size, 0)) else (none)) = some (r1, r2, r3, r4) := by rw [if_pos rfl] at H; exact H
    clear H; have H := H1; clear H1
    by_cases c13 : 2 ≤ (a0.size : Int)
    ·rw [if_pos c13] at H; have c13b0 := eq_true c13; have c13b1 : decide (2 ≤ (a0.size : Int)) = true := decide_eq_true c13; clear c13; simp only [Option.some.injEq, Prod.mk.injEq] at H; obtain ⟨rfl, rfl, rfl, rfl⟩ := H
     go_enter Tryz.func122, Tryz.ntmps122
     try go_wp2_with (first | ((with_reducible refine gate_dst (N := 2) rfl ?_); refine box_event ?hg (N := 2) ?hd (cs := #[.int .i64 0, .string (⟨#[]⟩ : ByteArray)]) (t := 160) ?hr ?_; (case hd => rfl); (case hg => rfl); (case hr => first | (go_simp; done) | (go_simp; rfl)); intro gb177 hg w14 hbox hb; have n0_ := Aside0.mk (below_step bw hb); have n1_ := Aside0.mk (hbox); have n2_ := Aside0.mk ((by rw [hg]; exact (below_size bw) : w.heap.size ≤ gb177)); have n3_ := Aside0.mk ((by rw [hg]; exact (below_size bw) : w.heap.size ≤ gb177)); clear HB; have HB := n0_; have BK177 := n1_; have GW177 := n2_; have GE177 := n3_; clear n0_ n1_ n2_ n3_; clear hb hbox hg; have p3 : 0 ≤ (0 : Int) := (by omega); have q3 : 0 < a0.size := (by have : (0 : Int) < (a0.size : Int) := od; omega); have hx3 : ∀ h : 0 < a0.size, ((a0[0]'h).toNat : Int) = bt a0 0 := bt_at a0 0; clear p3; have qi3 : (0 < (a0.size : Int)) = True := eq_true (od); replace q3 := eq_true q3) | ((with_reducible refine gate_callee (f := 133) rfl ?_); refine goesL_ (some 13) rfl rfl Tryz.func133 (by kernel_rfl) rfl #[.int .u8 (bt a0 0)] rfl am ?_; (with_reducible refine (lex_white.calls (bt a0 0) false _ A4.out).mono ?_); rintro e w' ⟨rfl, ⟨nd, rfl⟩⟩; refine ⟨_, rfl, ?_⟩; (try (rw [drewN_self w14]; generalize hq_ : World.drewN w14 _ = w14; have n0_ : Aside0 (w14.heap[gb177]? = some (.cells #[.int .i64 0, .string (⟨#[]⟩ : ByteArray)] 160 (0, 0))) := ⟨by rw [← hq_]; exact bk⟩; have n1_ : Aside0 (Below w.heap.size w w14) := ⟨by rw [← hq_]; exact bwS⟩; clear BK177 HB hq_; have BK177 := n0_; have HB := n1_; clear n0_ n1_))) | ((with_reducible refine gate_callee (f := 134) rfl ?_); refine goesL_ (some 19) rfl rfl Tryz.func134 (by kernel_rfl) rfl #[.string a0] rfl am ?_; (with_reducible refine (lex_fold.calls a0 true _ A11.out).mono ?_); rintro e w' ⟨rfl, ⟨nd, rfl⟩⟩; refine ⟨_, rfl, ?_⟩; (try (rw [drewN_self w14]; generalize hq_ : World.drewN w14 _ = w14; have n0_ : Aside0 (w14.heap[gb177]? = some (.cells #[.int .i64 0, .string (⟨#[]⟩ : ByteArray)] 160 (0, 0))) := ⟨by rw [← hq_]; exact bk⟩; have n1_ : Aside0 (Below w.heap.size w w14) := ⟨by rw [← hq_]; exact bwS⟩; clear BK177 HB hq_; have BK177 := n0_; have HB := n1_; clear n0_ n1_))))
     have n0_ := Aside0.mk (blk_drew BK177.out); have n1_ := Aside0.mk (below_drew1 HB.out); clear BK177 HB; have BK177 := n0_; have HB := n1_; clear n0_ n1_; refine start_ (n := 6) (S := fun w' => True) (ds := []) #[false, false, false, false, false, false] (by kernel_rfl) rfl rfl trivial (fun hHeld => ?_); generalize w14.drew = w15 at BK177 HB hHeld ⊢
     refine pure_ (i := 0) (N := some 20) (v := ?_) (a' := ?_) #[true, false, false, false, false, false] rfl rfl (by kernel_rfl) (fun _ _ _ h => h) (Or.inl ⟨by rfl, ?_⟩) ?_ ?_; rotate_left
     ·intro w'; go_simp; with_reducible rfl
     rotate_left
     ·simp only [Act.put, List.setIfInBounds_toArray, List.set_cons_zero, List.set_cons_succ, i64_w, i32_w]; rfl
     refine pure_ (i := 1) (N := some 21) (v := ?_) (a' := ?_) #[true, true, false, false, false, false] rfl rfl (by kernel_rfl) (fun _ _ _ h => h) (Or.inl ⟨by rfl, ?_⟩) ?_ ?_; rotate_left
     ·intro w'; go_simp; with_reducible rfl
     rotate_left
     ·simp only [Act.put, List.setIfInBounds_toArray, List.set_cons_zero, List.set_cons_succ, i64_w, i32_w]; rfl
     refine pure_ (i := 2) (N := some 22) (v := ?_) (a' := ?_) #[true, true, true, false, false, false] rfl rfl (by kernel_rfl) (fun _ _ _ h => h) (Or.inl ⟨by rfl, ?_⟩) ?_ ?_; rotate_left
     ·intro w'; go_simp; with_reducible rfl
     rotate_left
     ·simp only [Act.put, List.setIfInBounds_toArray, List.set_cons_zero, List.set_cons_succ, i64_w, i32_w]; rfl
     refine one_ (i := 3) (N := none) #[true, true, true, true, false, false] rfl rfl (by kernel_rfl) (by decide) (fun K hK => ?_); have hs16 : w15.cell? ⟨gb177, 0, none⟩ = some (.int .i64 0) := (blk_cell BK177.out 0).trans rfl; have hfs16 := blk_frozen BK177.out 0; have hs17 : w15.cell? ⟨gb177, 1, none⟩ = some (.string (⟨#[]⟩ : ByteArray)) := (blk_cell BK177.out 1).trans rfl; have hfs17 := blk_frozen BK177.out 1; refine skip_ (w1 := ?_) (by rfl) rfl ?_ ?_; rotate_left
     ·go_simp; rfl
     refine hK.out _ _ trivial (fun hHeld => ?_); clear hK K; refine pure_ (i := 4) (N := some 3) (v := ?_) (a' := ?_) #[true, true, true, true, true, false] rfl rfl (by kernel_rfl) (fun _ _ _ h => h) (Or.inl ⟨by rfl, ?_⟩) ?_ ?_; rotate_left
     ·intro w'; go_simp; with_reducible rfl
     rotate_left
     ·simp only [Act.put, List.setIfInBounds_toArray, List.set_cons_zero, List.set_cons_succ, i64_w, i32_w]; rfl
     refine pure_ (i := 5) (N := some 4) (v := ?_) (a' := ?_) #[true, true, true, true, true, true] rfl rfl (by kernel_rfl) (fun _ _ _ h => h) (Or.inl ⟨by rfl, ?_⟩) ?_ ?_; rotate_left
     ·intro w'; go_simp; with_reducible rfl
     rotate_left
     ·simp only [Act.put, List.setIfInBounds_toArray, List.set_cons_zero, List.set_cons_succ, i64_w, i32_w]; rfl
     refine done_ (by kernel_rfl) ?_
     try go_wp2
     refine bodyPost_ret (results_ctt rfl _ _ gb177 160 #[.int .i64 0, .string (⟨#[]⟩ : ByteArray)] (0, 0) _ rfl (by (with_reducible repeat (first | refine blk_drewN ?_ _ | refine blk_drew ?_ | refine blk_alloc ?_ _)); refine blk_put (cs := #[.int .i64 0, .string (⟨#[]⟩ : ByteArray)]) ?_ 1 _ rfl; (with_reducible repeat (first | refine blk_drewN ?_ _ | refine blk_drew ?_ | refine blk_alloc ?_ _)); exact blk_put (cs := #[.int .i64 0, .string (⟨#[]⟩ : ByteArray)]) bk 0 _ rfl) Tryz.underlying160 rfl (by kernel_rfl)) rfl ?_; exact ⟨ew, bwS⟩
    ·rw [if_neg c13] at H; exact absurd H (by simp)
   ·replace c12 := Bool.eq_false_iff.mpr c12; subst c12; have H1 : (if (bt a0 0) = 40 then ((lex_comment.f k a0).bind fun bt180 => (some (0, (⟨#[]⟩ : ByteArray), bt180.1, bt180.2))) else (if (bt a0 0) = 34 then ((lex_quoted.f k a0).bind fun bt182 => (some (bt182.1, bt182.2.1, bt182.2.2.1, bt182.2.2.2))) else ((lex_sign.f (bt a0 0)).bind fun t186 => (if t186 = true then (if 0 ≤ 1 then (if 1 ≤ (a0.size : Int) then (some (3, a0.extract 0 1, a0.extract 1 a0.size, 0)) else (none)) else (none)) else (lex_next.l0 k a0 0))))) = some (r1, r2, r3, r4) := by rw [if_neg (show ¬ (false = true) by decide)] at H; exact H
    clear H; have H := H1; clear H1
    by_cases c18 : (bt a0 0) = 40
    ·rw [if_pos c18] at H; have c18b0 : ((bt a0 0) == 40) = true := beq_iff_eq.mpr c18; have c18b1 : ((bt a0 0) != 40) = false := bne_eq_false_iff_eq.mpr c18; clear c18; replace H := Option.bind_eq_some_iff.mp H; obtain ⟨⟨t180, t181⟩, A190, H⟩ := H; replace H : (some (0, (⟨#[]⟩ : ByteArray), t180, t181)) = some (r1, r2, r3, r4) := H; have A19 := Aside0.mk A190; clear A190; simp only [Option.some.injEq, Prod.mk.injEq] at H; obtain ⟨rfl, rfl, rfl, rfl⟩ := H
     go_enter Tryz.func122, Tryz.ntmps122
     go_wp2_with (first | ((with_reducible refine gate_dst (N := 2) rfl ?_); refine box_event ?hg (N := 2) ?hd (cs := #[.int .i64 0, .string (⟨#[]⟩ : ByteArray)]) (t := 160) ?hr ?_; (case hd => rfl); (case hg => rfl); (case hr => first | (go_simp; done) | (go_simp; rfl)); intro gb177 hg w20 hbox hb; have n0_ := Aside0.mk (below_step bw hb); have n1_ := Aside0.mk (hbox); have n2_ := Aside0.mk ((by rw [hg]; exact (below_size bw) : w.heap.size ≤ gb177)); have n3_ := Aside0.mk ((by rw [hg]; exact (below_size bw) : w.heap.size ≤ gb177)); clear HB; have HB := n0_; have BK177 := n1_; have GW177 := n2_; have GE177 := n3_; clear n0_ n1_ n2_ n3_; clear hb hbox hg; have p3 : 0 ≤ (0 : Int) := (by omega); have q3 : 0 < a0.size := (by have : (0 : Int) < (a0.size : Int) := od; omega); have hx3 : ∀ h : 0 < a0.size, ((a0[0]'h).toNat : Int) = bt a0 0 := bt_at a0 0; clear p3; have qi3 : (0 < (a0.size : Int)) = True := eq_true (od); replace q3 := eq_true q3) | ((with_reducible refine gate_callee (f := 133) rfl ?_); refine goesL_ (some 13) rfl rfl Tryz.func133 (by kernel_rfl) rfl #[.int .u8 (bt a0 0)] rfl am ?_; (with_reducible refine (lex_white.calls (bt a0 0) false _ A4.out).mono ?_); rintro e w' ⟨rfl, ⟨nd, rfl⟩⟩; refine ⟨_, rfl, ?_⟩; (try (rw [drewN_self w20]; generalize hq_ : World.drewN w20 _ = w20; have n0_ : Aside0 (w20.heap[gb177]? = some (.cells #[.int .i64 0, .string (⟨#[]⟩ : ByteArray)] 160 (0, 0))) := ⟨by rw [← hq_]; exact bk⟩; have n1_ : Aside0 (Below w.heap.size w w20) := ⟨by rw [← hq_]; exact bwS⟩; clear BK177 HB hq_; have BK177 := n0_; have HB := n1_; clear n0_ n1_))) | ((with_reducible refine gate_callee (f := 134) rfl ?_); refine goesL_ (some 19) rfl rfl Tryz.func134 (by kernel_rfl) rfl #[.string a0] rfl am ?_; (with_reducible refine (lex_fold.calls a0 false _ A11.out).mono ?_); rintro e w' ⟨rfl, ⟨nd, rfl⟩⟩; refine ⟨_, rfl, ?_⟩; (try (rw [drewN_self w20]; generalize hq_ : World.drewN w20 _ = w20; have n0_ : Aside0 (w20.heap[gb177]? = some (.cells #[.int .i64 0, .string (⟨#[]⟩ : ByteArray)] 160 (0, 0))) := ⟨by rw [← hq_]; exact bk⟩; have n1_ : Aside0 (Below w.heap.size w w20) := ⟨by rw [← hq_]; exact bwS⟩; clear BK177 HB hq_; have BK177 := n0_; have HB := n1_; clear n0_ n1_))) | ((with_reducible refine gate_callee (f := 135) rfl ?_); refine goesL_ (some 28) rfl rfl Tryz.func135 (by kernel_rfl) rfl #[.string a0] rfl am ?_; (with_reducible refine (lex_comment.calls k a0 t180 t181 _ A19.out).mono ?_); rintro e w' ⟨rfl, ⟨nd, rfl⟩⟩; refine ⟨_, rfl, ?_⟩; (try (rw [drewN_self w20]; generalize hq_ : World.drewN w20 _ = w20; have n0_ : Aside0 (w20.heap[gb177]? = some (.cells #[.int .i64 0, .string (⟨#[]⟩ : ByteArray)] 160 (0, 0))) := ⟨by rw [← hq_]; exact bk⟩; have n1_ : Aside0 (Below w.heap.size w w20) := ⟨by rw [← hq_]; exact bwS⟩; clear BK177 HB hq_; have BK177 := n0_; have HB := n1_; clear n0_ n1_)); have hcz21_0 : w20.cell? ⟨gb177, 0, none⟩ = some (.int .i64 0) := (blk_cell BK177.out 0).trans rfl; have hcz21_1 : w20.cell? ⟨gb177, 1, none⟩ = some (.string (⟨#[]⟩ : ByteArray)) := (blk_cell BK177.out 1).trans rfl; have hfz21_0 := blk_frozen BK177.out 0; have hfz21_1 := blk_frozen BK177.out 1))
     refine bodyPost_ret (results_ctt rfl _ _ gb177 160 #[.int .i64 0, .string (⟨#[]⟩ : ByteArray)] (0, 0) _ rfl (by (with_reducible repeat (first | refine blk_drewN ?_ _ | refine blk_drew ?_ | refine blk_alloc ?_ _)); refine blk_put (cs := #[.int .i64 0, .string (⟨#[]⟩ : ByteArray)]) ?_ 1 _ rfl; (with_reducible repeat (first | refine blk_drewN ?_ _ | refine blk_drew ?_ | refine blk_alloc ?_ _)); exact blk_put (cs := #[.int .i64 0, .string (⟨#[]⟩ : ByteArray)]) bk 0 _ rfl) Tryz.underlying160 rfl (by kernel_rfl)) rfl ?_; exact ⟨ew, bwS⟩
    ·rw [if_neg c18] at H; have c18b0 : ((bt a0 0) == 40) = false := beq_eq_false_iff_ne.mpr c18; have c18b1 : ((bt a0 0) != 40) = true := bne_iff_ne.mpr c18
     by_cases c22 : (bt a0 0) = 34
     ·rw [if_pos c22] at H; have c22b0 : ((bt a0 0) == 34) = true := beq_iff_eq.mpr c22; have c22b1 : ((bt a0 0) != 34) = false := bne_eq_false_iff_eq.mpr c22; clear c22; replace H := Option.bind_eq_some_iff.mp H; obtain ⟨⟨t182, t183, t184, t185⟩, A230, H⟩ := H; replace H : (some (t182, t183, t184, t185)) = some (r1, r2, r3, r4) := H; have A23 := Aside0.mk A230; clear A230; simp only [Option.some.injEq, Prod.mk.injEq] at H; obtain ⟨rfl, rfl, rfl, rfl⟩ := H
      go_enter Tryz.func122, Tryz.ntmps122
      go_wp2_with (first | ((with_reducible refine gate_dst (N := 2) rfl ?_); refine box_event ?hg (N := 2) ?hd (cs := #[.int .i64 0, .string (⟨#[]⟩ : ByteArray)]) (t := 160) ?hr ?_; (case hd => rfl); (case hg => rfl); (case hr => first | (go_simp; done) | (go_simp; rfl)); intro gb177 hg w24 hbox hb; have n0_ := Aside0.mk (below_step bw hb); have n1_ := Aside0.mk (hbox); have n2_ := Aside0.mk ((by rw [hg]; exact (below_size bw) : w.heap.size ≤ gb177)); have n3_ := Aside0.mk ((by rw [hg]; exact (below_size bw) : w.heap.size ≤ gb177)); clear HB; have HB := n0_; have BK177 := n1_; have GW177 := n2_; have GE177 := n3_; clear n0_ n1_ n2_ n3_; clear hb hbox hg; have p3 : 0 ≤ (0 : Int) := (by omega); have q3 : 0 < a0.size := (by have : (0 : Int) < (a0.size : Int) := od; omega); have hx3 : ∀ h : 0 < a0.size, ((a0[0]'h).toNat : Int) = bt a0 0 := bt_at a0 0; clear p3; have qi3 : (0 < (a0.size : Int)) = True := eq_true (od); replace q3 := eq_true q3) | ((with_reducible refine gate_callee (f := 133) rfl ?_); refine goesL_ (some 13) rfl rfl Tryz.func133 (by kernel_rfl) rfl #[.int .u8 (bt a0 0)] rfl am ?_; (with_reducible refine (lex_white.calls (bt a0 0) false _ A4.out).mono ?_); rintro e w' ⟨rfl, ⟨nd, rfl⟩⟩; refine ⟨_, rfl, ?_⟩; (try (rw [drewN_self w24]; generalize hq_ : World.drewN w24 _ = w24; have n0_ : Aside0 (w24.heap[gb177]? = some (.cells #[.int .i64 0, .string (⟨#[]⟩ : ByteArray)] 160 (0, 0))) := ⟨by rw [← hq_]; exact bk⟩; have n1_ : Aside0 (Below w.heap.size w w24) := ⟨by rw [← hq_]; exact bwS⟩; clear BK177 HB hq_; have BK177 := n0_; have HB := n1_; clear n0_ n1_))) | ((with_reducible refine gate_callee (f := 134) rfl ?_); refine goesL_ (some 19) rfl rfl Tryz.func134 (by kernel_rfl) rfl #[.string a0] rfl am ?_; (with_reducible refine (lex_fold.calls a0 false _ A11.out).mono ?_); rintro e w' ⟨rfl, ⟨nd, rfl⟩⟩; refine ⟨_, rfl, ?_⟩; (try (rw [drewN_self w24]; generalize hq_ : World.drewN w24 _ = w24; have n0_ : Aside0 (w24.heap[gb177]? = some (.cells #[.int .i64 0, .string (⟨#[]⟩ : ByteArray)] 160 (0, 0))) := ⟨by rw [← hq_]; exact bk⟩; have n1_ : Aside0 (Below w.heap.size w w24) := ⟨by rw [← hq_]; exact bwS⟩; clear BK177 HB hq_; have BK177 := n0_; have HB := n1_; clear n0_ n1_))) | ((with_reducible refine gate_callee (f := 136) rfl ?_); refine goesL_ (some 38) rfl rfl Tryz.func136 (by kernel_rfl) rfl #[.string a0] rfl am ?_; (with_reducible refine (lex_quoted.calls k a0 t182 t183 t184 t185 _ A23.out).mono ?_); rintro e w25 ⟨rfl, hb⟩; refine ⟨_, rfl, ?_⟩; have n0_ := Aside0.mk (blk_below (g := gb177) (o := .cells #[.int .i64 0, .string (⟨#[]⟩ : ByteArray)] 160 (0, 0)) bk hb); have n1_ := Aside0.mk (below_step bwS hb); clear BK177; clear HB; have BK177 := n0_; have HB := n1_; clear n0_ n1_; (try clear hb); (try clear hb2); (try clear hk); (try clear hi); have hcz26_0 : w25.cell? ⟨gb177, 0, none⟩ = some (.int .i64 0) := (blk_cell BK177.out 0).trans rfl; have hcz26_1 : w25.cell? ⟨gb177, 1, none⟩ = some (.string (⟨#[]⟩ : ByteArray)) := (blk_cell BK177.out 1).trans rfl; have hfz26_0 := blk_frozen BK177.out 0; have hfz26_1 := blk_frozen BK177.out 1))
      refine bodyPost_ret (results_ctt rfl _ _ gb177 160 #[.int .i64 t182, .string t183] (0, 0) _ rfl (by (with_reducible repeat (first | refine blk_drewN ?_ _ | refine blk_drew ?_ | refine blk_alloc ?_ _)); refine blk_put (cs := #[.int .i64 t182, .string (⟨#[]⟩ : ByteArray)]) ?_ 1 _ rfl; (with_reducible repeat (first | refine blk_drewN ?_ _ | refine blk_drew ?_ | refine blk_alloc ?_ _)); exact blk_put (cs := #[.int .i64 0, .string (⟨#[]⟩ : ByteArray)]) bk 0 _ rfl) Tryz.underlying160 rfl (by kernel_rfl)) rfl ?_; exact ⟨ew, bwS⟩
     ·rw [if_neg c22] at H; have c22b0 : ((bt a0 0) == 34) = false := beq_eq_false_iff_ne.mpr c22; have c22b1 : ((bt a0 0) != 34) = true := bne_iff_ne.mpr c22; replace H := Option.bind_eq_some_iff.mp H; obtain ⟨t186, A270, H⟩ := H; replace H : (if t186 = true then (if 0 ≤ 1 then (if 1 ≤ (a0.size : Int) then (some (3, a0.extract 0 1, a0.extract 1 a0.size, 0)) else (none)) else (none)) else (lex_next.l0 k a0 0)) = some (r1, r2, r3, r4) := H; have A27 := Aside0.mk A270; clear A270
      by_cases c28 : t186 = true
      ·subst c28; have H1 : (if 0 ≤ 1 then (if 1 ≤ (a0.size : Int) then (some (3, a0.extract 0 1, a0.extract 1 a0.size, 0)) else (none)) else (none)) = some (r1, r2, r3, r4) := by rw [if_pos rfl] at H; exact H
       clear H; have H := H1; clear H1
       by_cases c29 : 0 ≤ 1
       ·rw [if_pos c29] at H; have c29b0 := eq_true c29; have c29b1 : decide (0 ≤ 1) = true := decide_eq_true c29; clear c29
        by_cases c30 : 1 ≤ (a0.size : Int)
        ·rw [if_pos c30] at H; have c30b0 := eq_true c30; have c30b1 : decide (1 ≤ (a0.size : Int)) = true := decide_eq_true c30; clear c30; have c31b0 := eq_true (od : 1 ≤ (a0.size : Int)); simp only [Option.some.injEq, Prod.mk.injEq] at H; obtain ⟨rfl, rfl, rfl, rfl⟩ := H
         go_enter Tryz.func122, Tryz.ntmps122
         try go_wp2_with (first | ((with_reducible refine gate_dst (N := 2) rfl ?_); refine box_event ?hg (N := 2) ?hd (cs := #[.int .i64 0, .string (⟨#[]⟩ : ByteArray)]) (t := 160) ?hr ?_; (case hd => rfl); (case hg => rfl); (case hr => first | (go_simp; done) | (go_simp; rfl)); intro gb177 hg w32 hbox hb; have n0_ := Aside0.mk (below_step bw hb); have n1_ := Aside0.mk (hbox); have n2_ := Aside0.mk ((by rw [hg]; exact (below_size bw) : w.heap.size ≤ gb177)); have n3_ := Aside0.mk ((by rw [hg]; exact (below_size bw) : w.heap.size ≤ gb177)); clear HB; have HB := n0_; have BK177 := n1_; have GW177 := n2_; have GE177 := n3_; clear n0_ n1_ n2_ n3_; clear hb hbox hg; have p3 : 0 ≤ (0 : Int) := (by omega); have q3 : 0 < a0.size := (by have : (0 : Int) < (a0.size : Int) := od; omega); have hx3 : ∀ h : 0 < a0.size, ((a0[0]'h).toNat : Int) = bt a0 0 := bt_at a0 0; clear p3; have qi3 : (0 < (a0.size : Int)) = True := eq_true (od); replace q3 := eq_true q3) | ((with_reducible refine gate_callee (f := 133) rfl ?_); refine goesL_ (some 13) rfl rfl Tryz.func133 (by kernel_rfl) rfl #[.int .u8 (bt a0 0)] rfl am ?_; (with_reducible refine (lex_white.calls (bt a0 0) false _ A4.out).mono ?_); rintro e w' ⟨rfl, ⟨nd, rfl⟩⟩; refine ⟨_, rfl, ?_⟩; (try (rw [drewN_self w32]; generalize hq_ : World.drewN w32 _ = w32; have n0_ : Aside0 (w32.heap[gb177]? = some (.cells #[.int .i64 0, .string (⟨#[]⟩ : ByteArray)] 160 (0, 0))) := ⟨by rw [← hq_]; exact bk⟩; have n1_ : Aside0 (Below w.heap.size w w32) := ⟨by rw [← hq_]; exact bwS⟩; clear BK177 HB hq_; have BK177 := n0_; have HB := n1_; clear n0_ n1_))) | ((with_reducible refine gate_callee (f := 134) rfl ?_); refine goesL_ (some 19) rfl rfl Tryz.func134 (by kernel_rfl) rfl #[.string a0] rfl am ?_; (with_reducible refine (lex_fold.calls a0 false _ A11.out).mono ?_); rintro e w' ⟨rfl, ⟨nd, rfl⟩⟩; refine ⟨_, rfl, ?_⟩; (try (rw [drewN_self w32]; generalize hq_ : World.drewN w32 _ = w32; have n0_ : Aside0 (w32.heap[gb177]? = some (.cells #[.int .i64 0, .string (⟨#[]⟩ : ByteArray)] 160 (0, 0))) := ⟨by rw [← hq_]; exact bk⟩; have n1_ : Aside0 (Below w.heap.size w w32) := ⟨by rw [← hq_]; exact bwS⟩; clear BK177 HB hq_; have BK177 := n0_; have HB := n1_; clear n0_ n1_))) | ((with_reducible refine gate_callee (f := 137) rfl ?_); refine goesL_ (some 44) rfl rfl Tryz.func137 (by kernel_rfl) rfl #[.int .u8 (bt a0 0)] rfl am ?_; (with_reducible refine (lex_sign.calls (bt a0 0) true _ A27.out).mono ?_); rintro e w' ⟨rfl, ⟨nd, rfl⟩⟩; refine ⟨_, rfl, ?_⟩; (try (rw [drewN_self w32]; generalize hq_ : World.drewN w32 _ = w32; have n0_ : Aside0 (w32.heap[gb177]? = some (.cells #[.int .i64 0, .string (⟨#[]⟩ : ByteArray)] 160 (0, 0))) := ⟨by rw [← hq_]; exact bk⟩; have n1_ : Aside0 (Below w.heap.size w w32) := ⟨by rw [← hq_]; exact bwS⟩; clear BK177 HB hq_; have BK177 := n0_; have HB := n1_; clear n0_ n1_))))
         have n0_ := Aside0.mk (blk_drew BK177.out); have n1_ := Aside0.mk (below_drew1 HB.out); clear BK177 HB; have BK177 := n0_; have HB := n1_; clear n0_ n1_; refine start_ (n := 8) (S := fun w' => True) (ds := []) #[false, false, false, false, false, false, false, false] (by kernel_rfl) rfl rfl trivial (fun hHeld => ?_); refine with_tabW lex_next.tab12 lex_next.bits12 (fun HT_ HW_ => ?_)
         generalize w32.drew = w33 at BK177 HB hHeld ⊢
         refine pure_ (i := 0) (N := some 45) (v := ?_) (a' := ?_) (bitsL 8 1) rfl rfl (any_of HT_.out (by kernel_rfl)) (fun _ _ _ h => h) (Or.inl ⟨by rfl, ?_⟩) ?_ ?_; rotate_left
         ·intro w'; go_simp; with_reducible rfl
         rotate_left
         ·simp only [Act.put, List.setIfInBounds_toArray, List.set_cons_zero, List.set_cons_succ, i64_w, i32_w]; rfl
         refine pure_ (i := 1) (N := some 46) (v := ?_) (a' := ?_) (bitsL 8 3) rfl rfl (any_of HT_.out (by kernel_rfl)) (fun _ _ _ h => h) (Or.inl ⟨by rfl, ?_⟩) ?_ ?_; rotate_left
         ·intro w'; go_simp; with_reducible rfl
         rotate_left
         ·simp only [Act.put, List.setIfInBounds_toArray, List.set_cons_zero, List.set_cons_succ, i64_w, i32_w]; rfl
         refine pure_ (i := 2) (N := some 47) (v := ?_) (a' := ?_) (bitsL 8 7) rfl rfl (any_of HT_.out (by kernel_rfl)) (fun _ _ _ h => h) (Or.inl ⟨by rfl, ?_⟩) ?_ ?_; rotate_left
         ·intro w'; go_simp; with_reducible rfl
         rotate_left
         ·simp only [Act.put, List.setIfInBounds_toArray, List.set_cons_zero, List.set_cons_succ, i64_w, i32_w]; rfl
         refine pure_ (i := 3) (N := some 48) (v := ?_) (a' := ?_) (bitsL 8 15) rfl rfl (any_of HT_.out (by kernel_rfl)) (fun _ _ _ h => h) (Or.inl ⟨by rfl, ?_⟩) ?_ ?_; rotate_left
         ·intro w'; go_simp; with_reducible rfl
         rotate_left
         ·simp only [Act.put, List.setIfInBounds_toArray, List.set_cons_zero, List.set_cons_succ, i64_w, i32_w]; rfl
         refine pure_ (i := 4) (N := some 49) (v := ?_) (a' := ?_) (bitsL 8 31) rfl rfl (any_of HT_.out (by kernel_rfl)) (fun _ _ _ h => h) (Or.inl ⟨by rfl, ?_⟩) ?_ ?_; rotate_left
         ·intro w'; go_simp; with_reducible rfl
         rotate_left
         ·simp only [Act.put, List.setIfInBounds_toArray, List.set_cons_zero, List.set_cons_succ, i64_w, i32_w]; rfl
         refine one_ (i := 5) (N := none) (bitsL 8 63) rfl rfl (one_of HT_.out (by kernel_rfl)) (by decide) (fun K hK => ?_); have hs34 : w33.cell? ⟨gb177, 0, none⟩ = some (.int .i64 0) := (blk_cell BK177.out 0).trans rfl; have hfs34 := blk_frozen BK177.out 0; have hs35 : w33.cell? ⟨gb177, 1, none⟩ = some (.string (⟨#[]⟩ : ByteArray)) := (blk_cell BK177.out 1).trans rfl; have hfs35 := blk_frozen BK177.out 1; refine skip_ (w1 := ?_) (by rfl) rfl ?_ ?_; rotate_left
         ·go_simp; rfl
         refine hK.out _ _ trivial (fun hHeld => ?_); clear hK K; refine pure_ (i := 6) (N := some 3) (v := ?_) (a' := ?_) (bitsL 8 127) rfl rfl (any_of HT_.out (by kernel_rfl)) (fun _ _ _ h => h) (Or.inl ⟨by rfl, ?_⟩) ?_ ?_; rotate_left
         ·intro w'; go_simp; with_reducible rfl
         rotate_left
         ·simp only [Act.put, List.setIfInBounds_toArray, List.set_cons_zero, List.set_cons_succ, i64_w, i32_w]; rfl
         refine pure_ (i := 7) (N := some 4) (v := ?_) (a' := ?_) (bitsL 8 255) rfl rfl (any_of HT_.out (by kernel_rfl)) (fun _ _ _ h => h) (Or.inl ⟨by rfl, ?_⟩) ?_ ?_; rotate_left
         ·intro w'; go_simp; with_reducible rfl
         rotate_left
         ·simp only [Act.put, List.setIfInBounds_toArray, List.set_cons_zero, List.set_cons_succ, i64_w, i32_w]; rfl
         refine done_ (done_of HT_.out (by kernel_rfl)) ?_
         try go_wp2
         refine bodyPost_ret (results_ctt rfl _ _ gb177 160 #[.int .i64 3, .string (a0.extract 0 1)] (0, 0) _ rfl (by (with_reducible repeat (first | refine blk_drewN ?_ _ | refine blk_drew ?_ | refine blk_alloc ?_ _)); refine blk_put (cs := #[.int .i64 3, .string (⟨#[]⟩ : ByteArray)]) ?_ 1 _ rfl; (with_reducible repeat (first | refine blk_drewN ?_ _ | refine blk_drew ?_ | refine blk_alloc ?_ _)); exact blk_put (cs := #[.int .i64 0, .string (⟨#[]⟩ : ByteArray)]) bk 0 _ rfl) Tryz.underlying160 rfl (by kernel_rfl)) rfl ?_; exact ⟨ew, bwS⟩
        ·rw [if_neg c30] at H; exact absurd H (by simp)
       ·exact absurd c29 (by decide)
      ·replace c28 := Bool.eq_false_iff.mpr c28; subst c28; have H1 : (lex_next.l0 k a0 0) = some (r1, r2, r3, r4) := by rw [if_neg (show ¬ (false = true) by decide)] at H; exact H
       clear H; have H := H1; clear H1; have H' := Aside0.mk H; clear H
       go_enter Tryz.func122, Tryz.ntmps122
       go_wp2_with (first | ((with_reducible refine gate_dst (N := 2) rfl ?_); refine box_event ?hg (N := 2) ?hd (cs := #[.int .i64 0, .string (⟨#[]⟩ : ByteArray)]) (t := 160) ?hr ?_; (case hd => rfl); (case hg => rfl); (case hr => first | (go_simp; done) | (go_simp; rfl)); intro gb177 hg w36 hbox hb; have n0_ := Aside0.mk (below_step bw hb); have n1_ := Aside0.mk (hbox); have n2_ := Aside0.mk ((by rw [hg]; exact (below_size bw) : w.heap.size ≤ gb177)); have n3_ := Aside0.mk ((by rw [hg]; exact (below_size bw) : w.heap.size ≤ gb177)); clear HB; have HB := n0_; have BK177 := n1_; have GW177 := n2_; have GE177 := n3_; clear n0_ n1_ n2_ n3_; clear hb hbox hg; have p3 : 0 ≤ (0 : Int) := (by omega); have q3 : 0 < a0.size := (by have : (0 : Int) < (a0.size : Int) := od; omega); have hx3 : ∀ h : 0 < a0.size, ((a0[0]'h).toNat : Int) = bt a0 0 := bt_at a0 0; clear p3; have qi3 : (0 < (a0.size : Int)) = True := eq_true (od); replace q3 := eq_true q3) | ((with_reducible refine gate_callee (f := 133) rfl ?_); refine goesL_ (some 13) rfl rfl Tryz.func133 (by kernel_rfl) rfl #[.int .u8 (bt a0 0)] rfl am ?_; (with_reducible refine (lex_white.calls (bt a0 0) false _ A4.out).mono ?_); rintro e w' ⟨rfl, ⟨nd, rfl⟩⟩; refine ⟨_, rfl, ?_⟩) | ((with_reducible refine gate_callee (f := 134) rfl ?_); refine goesL_ (some 19) rfl rfl Tryz.func134 (by kernel_rfl) rfl #[.string a0] rfl am ?_; (with_reducible refine (lex_fold.calls a0 false _ A11.out).mono ?_); rintro e w' ⟨rfl, ⟨nd, rfl⟩⟩; refine ⟨_, rfl, ?_⟩) | ((with_reducible refine gate_callee (f := 137) rfl ?_); refine goesL_ (some 44) rfl rfl Tryz.func137 (by kernel_rfl) rfl #[.int .u8 (bt a0 0)] rfl am ?_; (with_reducible refine (lex_sign.calls (bt a0 0) false _ A27.out).mono ?_); rintro e w' ⟨rfl, ⟨nd, rfl⟩⟩; refine ⟨_, rfl, ?_⟩))
       go_loopg [8] k (fun kq v8 w' => ∃ (x8_1 : Int), v8 = .int .i64 x8_1 ∧ Aside0 (lex_next.l0 kq a0 x8_1 = some (r1, r2, r3, r4)) ∧ Aside0 (kq ≤ k) ∧ Aside0 (w'.heap[gb177]? = some (.cells #[.int .i64 0, .string (⟨#[]⟩ : ByteArray)] 160 (0, 0))) ∧ Aside0 (Below w.heap.size w w'))
       case atStart => exact ⟨(0), cl, H', ⟨Nat.le_refl _⟩, ⟨bk⟩, ⟨bwS⟩⟩
       case round =>
        clear H'
        try clear c1
        try clear c2
        try clear c2b0
        try clear c2b1
        try clear p2
        try clear c3
        try clear p3
        try clear q3
        try clear hx3
        try clear qi3
        try clear c5
        try clear c6
        try clear c6b0
        try clear c6b1
        try clear c12
        try clear c13
        try clear c13b0
        try clear c13b1
        try clear c18
        try clear c18b0
        try clear c18b1
        try clear c22
        try clear c22b0
        try clear c22b1
        try clear c28
        try clear c29
        try clear c29b0
        try clear c29b1
        try clear c30
        try clear c30b0
        try clear c30b1
        try clear c31
        try clear c31b0
        try clear hcz21_0
        try clear hcz21_1
        try clear hcz26_0
        try clear hcz26_1
        try clear hfz21_0
        try clear hfz21_1
        try clear hfz26_0
        try clear hfz26_1
        try clear p3
        try clear q3
        obtain ⟨x8_1, rfl, HA, HK1, BK177, HB⟩ := hrel; cases gk with
        | zero => exact absurd HA.out (by simp [lex_next.l0])
        | succ k1 =>
         have H := HA.out; clear HA; simp only [lex_next.l0] at H
         by_cases c37 : x8_1 < (a0.size : Int)
         ·rw [if_pos c37] at H; have c37b0 : decide (x8_1 < (a0.size : Int)) = true := decide_eq_true c37; clear c37
          by_cases c38 : 0 ≤ x8_1
          ·rw [if_pos c38] at H; have c38b0 : decide (0 ≤ x8_1) = true := decide_eq_true c38; clear c38; replace H := Option.bind_eq_some_iff.mp H; obtain ⟨t187, A400, H⟩ := H; replace H : (if t187 = true then (lex_next.l0 k1 a0 (wrap64 (x8_1 + 1))) else (if x8_1 = 0 then (some (0, (⟨#[]⟩ : ByteArray), (⟨#[]⟩ : ByteArray), 3)) else (if x8_1 ≤ (a0.size : Int) then (some (1, a0.extract 0 (x8_1 : Int).toNat, a0.extract (x8_1 : Int).toNat a0.size, 0)) else (none)))) = some (r1, r2, r3, r4) := H; have A40 := Aside0.mk A400; clear A400
           by_cases c41 : t187 = true
           ·subst c41; have H1 : (lex_next.l0 k1 a0 (wrap64 (x8_1 + 1))) = some (r1, r2, r3, r4) := by rw [if_pos rfl] at H; exact H
            clear H; have H := H1; clear H1; have H' := Aside0.mk H; clear H; have p39 : 0 ≤ (x8_1 : Int) := od; have q39 : x8_1 < (a0.size : Int) := od; have hx39 := bt_at a0 x8_1; replace p39 := eq_true p39; replace q39 := eq_true q39
            go_wp2_with (first | (go_at_call 138; (with_reducible refine (lex_atomic.calls (bt a0 x8_1) true _ A40.out).mono ?_); rintro e w' ⟨rfl, ⟨nd, rfl⟩⟩))
            go_roundg k1
            case measure => have := HK1.out; omega
            case rel => exact ⟨(wrap64 (x8_1 + 1)), cl, H', ⟨by have := HK1.out; omega⟩, ⟨bk⟩, ⟨bwS⟩⟩
           ·replace c41 := Bool.eq_false_iff.mpr c41; subst c41; have H1 : (if x8_1 = 0 then (some (0, (⟨#[]⟩ : ByteArray), (⟨#[]⟩ : ByteArray), 3)) else (if x8_1 ≤ (a0.size : Int) then (some (1, a0.extract 0 (x8_1 : Int).toNat, a0.extract (x8_1 : Int).toNat a0.size, 0)) else (none))) = some (r1, r2, r3, r4) := by rw [if_neg (show ¬ (false = true) by decide)] at H; exact H
            clear H; have H := H1; clear H1
            by_cases c42 : x8_1 = 0
            ·rw [if_pos c42] at H; have c42b0 : (x8_1 == 0) = true := beq_iff_eq.mpr c42; have c42b1 : (x8_1 != 0) = false := bne_eq_false_iff_eq.mpr c42; clear c42; simp only [Option.some.injEq, Prod.mk.injEq] at H; obtain ⟨rfl, rfl, rfl, rfl⟩ := H; have p39 : 0 ≤ (x8_1 : Int) := od; have q39 : x8_1 < (a0.size : Int) := od; have hx39 := bt_at a0 x8_1; replace p39 := eq_true p39; replace q39 := eq_true q39
             go_wp2_with (first | (go_at_call 138; (with_reducible refine (lex_atomic.calls (bt a0 x8_1) false _ A40.out).mono ?_); rintro e w' ⟨rfl, ⟨nd, rfl⟩⟩; (try (rw [drewN_self wr]; generalize hq_ : World.drewN wr _ = wr; have n0_ : Aside0 (wr.heap[gb177]? = some (.cells #[.int .i64 0, .string (⟨#[]⟩ : ByteArray)] 160 (0, 0))) := ⟨by rw [← hq_]; exact bk⟩; have n1_ : Aside0 (Below w.heap.size w wr) := ⟨by rw [← hq_]; exact bwS⟩; clear BK177 HB hq_; have BK177 := n0_; have HB := n1_; clear n0_ n1_)); have hcz43_0 : wr.cell? ⟨gb177, 0, none⟩ = some (.int .i64 0) := (blk_cell BK177.out 0).trans rfl; have hcz43_1 : wr.cell? ⟨gb177, 1, none⟩ = some (.string (⟨#[]⟩ : ByteArray)) := (blk_cell BK177.out 1).trans rfl; have hfz43_0 := blk_frozen BK177.out 0; have hfz43_1 := blk_frozen BK177.out 1))
             refine bodyPost_ret (results_ctt rfl _ _ gb177 160 #[.int .i64 0, .string (⟨#[]⟩ : ByteArray)] (0, 0) _ rfl (by (with_reducible repeat (first | refine blk_drewN ?_ _ | refine blk_drew ?_ | refine blk_alloc ?_ _)); refine blk_put (cs := #[.int .i64 0, .string (⟨#[]⟩ : ByteArray)]) ?_ 1 _ rfl; (with_reducible repeat (first | refine blk_drewN ?_ _ | refine blk_drew ?_ | refine blk_alloc ?_ _)); exact blk_put (cs := #[.int .i64 0, .string (⟨#[]⟩ : ByteArray)]) bk 0 _ rfl) Tryz.underlying160 rfl (by kernel_rfl)) rfl ?_; exact ⟨ew, bwS⟩
            ·rw [if_neg c42] at H; have c42b0 : (x8_1 == 0) = false := beq_eq_false_iff_ne.mpr c42; have c42b1 : (x8_1 != 0) = true := bne_iff_ne.mpr c42; have c44b0 := eq_true (od : 0 ≤ x8_1)
             by_cases c45 : x8_1 ≤ (a0.size : Int)
             ·rw [if_pos c45] at H; have c45b0 := eq_true c45; have c45b1 : decide (x8_1 ≤ (a0.size : Int)) = true := decide_eq_true c45; clear c45; have c46b0 := eq_true (od : 0 ≤ x8_1); have c47b0 := eq_true (od : x8_1 ≤ (a0.size : Int)); simp only [Option.some.injEq, Prod.mk.injEq] at H; obtain ⟨rfl, rfl, rfl, rfl⟩ := H; have p39 : 0 ≤ (x8_1 : Int) := od; have q39 : x8_1 < (a0.size : Int) := od; have hx39 := bt_at a0 x8_1; replace p39 := eq_true p39; replace q39 := eq_true q39
              try go_wp2_with (first | (go_at_call 138; (with_reducible refine (lex_atomic.calls (bt a0 x8_1) false _ A40.out).mono ?_); rintro e w' ⟨rfl, ⟨nd, rfl⟩⟩; (try (rw [drewN_self wr]; generalize hq_ : World.drewN wr _ = wr; have n0_ : Aside0 (wr.heap[gb177]? = some (.cells #[.int .i64 0, .string (⟨#[]⟩ : ByteArray)] 160 (0, 0))) := ⟨by rw [← hq_]; exact bk⟩; have n1_ : Aside0 (Below w.heap.size w wr) := ⟨by rw [← hq_]; exact bwS⟩; clear BK177 HB hq_; have BK177 := n0_; have HB := n1_; clear n0_ n1_))))
              have n0_ := Aside0.mk (blk_drew BK177.out); have n1_ := Aside0.mk (below_drew1 HB.out); clear BK177 HB; have BK177 := n0_; have HB := n1_; clear n0_ n1_; refine start_ (n := 10) (S := fun w' => True) (ds := []) #[false, false, false, false, false, false, false, false, false, false] (by kernel_rfl) rfl rfl trivial (fun hHeld => ?_); refine with_tabW lex_next.tab18 lex_next.bits18 (fun HT_ HW_ => ?_)
              generalize wr.drew = w48 at BK177 HB hHeld ⊢
              refine pure_ (i := 0) (N := some 65) (v := ?_) (a' := ?_) (bitsL 10 1) rfl rfl (any_of HT_.out (by kernel_rfl)) (fun _ _ _ h => h) (Or.inl ⟨by rfl, ?_⟩) ?_ ?_; rotate_left
              ·intro w'; go_simp; with_reducible rfl
              rotate_left
              ·simp only [Act.put, List.setIfInBounds_toArray, List.set_cons_zero, List.set_cons_succ, i64_w, i32_w]; rfl
              refine pure_ (i := 1) (N := some 66) (v := ?_) (a' := ?_) (bitsL 10 3) rfl rfl (any_of HT_.out (by kernel_rfl)) (fun _ _ _ h => h) (Or.inl ⟨by rfl, ?_⟩) ?_ ?_; rotate_left
              ·intro w'; go_simp; with_reducible rfl
              rotate_left
              ·simp only [Act.put, List.setIfInBounds_toArray, List.set_cons_zero, List.set_cons_succ, i64_w, i32_w]; rfl
              refine pure_ (i := 2) (N := some 67) (v := ?_) (a' := ?_) (bitsL 10 7) rfl rfl (any_of HT_.out (by kernel_rfl)) (fun _ _ _ h => h) (Or.inl ⟨by rfl, ?_⟩) ?_ ?_; rotate_left
              ·intro w'; go_simp; with_reducible rfl
              rotate_left
              ·simp only [Act.put, List.setIfInBounds_toArray, List.set_cons_zero, List.set_cons_succ, i64_w, i32_w]; rfl
              refine pure_ (i := 3) (N := some 68) (v := ?_) (a' := ?_) (bitsL 10 15) rfl rfl (any_of HT_.out (by kernel_rfl)) (fun _ _ _ h => h) (Or.inl ⟨by rfl, ?_⟩) ?_ ?_; rotate_left
              ·intro w'; go_simp; with_reducible rfl
              rotate_left
              ·simp only [Act.put, List.setIfInBounds_toArray, List.set_cons_zero, List.set_cons_succ, i64_w, i32_w]; rfl
              refine pure_ (i := 4) (N := some 69) (v := ?_) (a' := ?_) (bitsL 10 31) rfl rfl (any_of HT_.out (by kernel_rfl)) (fun _ _ _ h => h) (Or.inl ⟨by rfl, ?_⟩) ?_ ?_; rotate_left
              ·intro w'; go_simp; with_reducible rfl
              rotate_left
              ·simp only [Act.put, List.setIfInBounds_toArray, List.set_cons_zero, List.set_cons_succ, i64_w, i32_w]; rfl
              refine pure_ (i := 5) (N := some 70) (v := ?_) (a' := ?_) (bitsL 10 63) rfl rfl (any_of HT_.out (by kernel_rfl)) (fun _ _ _ h => h) (Or.inl ⟨by rfl, ?_⟩) ?_ ?_; rotate_left
              ·intro w'; go_simp; with_reducible rfl
              rotate_left
              ·simp only [Act.put, List.setIfInBounds_toArray, List.set_cons_zero, List.set_cons_succ, i64_w, i32_w]; rfl
              refine pure_ (i := 6) (N := some 71) (v := ?_) (a' := ?_) (bitsL 10 127) rfl rfl (any_of HT_.out (by kernel_rfl)) (fun _ _ _ h => h) (Or.inl ⟨by rfl, ?_⟩) ?_ ?_; rotate_left
              ·intro w'; go_simp; with_reducible rfl
              rotate_left
              ·simp only [Act.put, List.setIfInBounds_toArray, List.set_cons_zero, List.set_cons_succ, i64_w, i32_w]; rfl
              refine one_ (i := 7) (N := none) (bitsL 10 255) rfl rfl (one_of HT_.out (by kernel_rfl)) (by decide) (fun K hK => ?_); have hs49 : w48.cell? ⟨gb177, 0, none⟩ = some (.int .i64 0) := (blk_cell BK177.out 0).trans rfl; have hfs49 := blk_frozen BK177.out 0; have hs50 : w48.cell? ⟨gb177, 1, none⟩ = some (.string (⟨#[]⟩ : ByteArray)) := (blk_cell BK177.out 1).trans rfl; have hfs50 := blk_frozen BK177.out 1; refine skip_ (w1 := ?_) (by rfl) rfl ?_ ?_; rotate_left
              ·go_simp; rfl
              refine hK.out _ _ trivial (fun hHeld => ?_); clear hK K; refine pure_ (i := 8) (N := some 3) (v := ?_) (a' := ?_) (bitsL 10 511) rfl rfl (any_of HT_.out (by kernel_rfl)) (fun _ _ _ h => h) (Or.inl ⟨by rfl, ?_⟩) ?_ ?_; rotate_left
              ·intro w'; go_simp; with_reducible rfl
              rotate_left
              ·simp only [Act.put, List.setIfInBounds_toArray, List.set_cons_zero, List.set_cons_succ, i64_w, i32_w]; rfl
              refine pure_ (i := 9) (N := some 4) (v := ?_) (a' := ?_) (bitsL 10 1023) rfl rfl (any_of HT_.out (by kernel_rfl)) (fun _ _ _ h => h) (Or.inl ⟨by rfl, ?_⟩) ?_ ?_; rotate_left
              ·intro w'; go_simp; with_reducible rfl
              rotate_left
              ·simp only [Act.put, List.setIfInBounds_toArray, List.set_cons_zero, List.set_cons_succ, i64_w, i32_w]; rfl
              refine done_ (done_of HT_.out (by kernel_rfl)) ?_
              try go_wp2
              refine bodyPost_ret (results_ctt rfl _ _ gb177 160 #[.int .i64 1, .string (a0.extract 0 (x8_1 : Int).toNat)] (0, 0) _ rfl (by (with_reducible repeat (first | refine blk_drewN ?_ _ | refine blk_drew ?_ | refine blk_alloc ?_ _)); refine blk_put (cs := #[.int .i64 1, .string (⟨#[]⟩ : ByteArray)]) ?_ 1 _ rfl; (with_reducible repeat (first | refine blk_drewN ?_ _ | refine blk_drew ?_ | refine blk_alloc ?_ _)); exact blk_put (cs := #[.int .i64 0, .string (⟨#[]⟩ : ByteArray)]) bk 0 _ rfl) Tryz.underlying160 rfl (by kernel_rfl)) rfl ?_; exact ⟨ew, bwS⟩
             ·rw [if_neg c45] at H; exact absurd H (by simp)
          ·rw [if_neg c38] at H; exact absurd H (by simp)
         ·rw [if_neg c37] at H; have c37b0 : decide (x8_1 < (a0.size : Int)) = false := decide_eq_false c37; clear c37
          by_cases c51 : x8_1 = 0
          ·rw [if_pos c51] at H; have c51b0 : (x8_1 == 0) = true := beq_iff_eq.mpr c51; have c51b1 : (x8_1 != 0) = false := bne_eq_false_iff_eq.mpr c51; clear c51; simp only [Option.some.injEq, Prod.mk.injEq] at H; obtain ⟨rfl, rfl, rfl, rfl⟩ := H; have hcz52_0 : wr.cell? ⟨gb177, 0, none⟩ = some (.int .i64 0) := (blk_cell BK177.out 0).trans rfl; have hcz52_1 : wr.cell? ⟨gb177, 1, none⟩ = some (.string (⟨#[]⟩ : ByteArray)) := (blk_cell BK177.out 1).trans rfl; have hfz52_0 := blk_frozen BK177.out 0; have hfz52_1 := blk_frozen BK177.out 1
           go_wp2
           refine bodyPost_ret (results_ctt rfl _ _ gb177 160 #[.int .i64 0, .string (⟨#[]⟩ : ByteArray)] (0, 0) _ rfl (by (with_reducible repeat (first | refine blk_drewN ?_ _ | refine blk_drew ?_ | refine blk_alloc ?_ _)); refine blk_put (cs := #[.int .i64 0, .string (⟨#[]⟩ : ByteArray)]) ?_ 1 _ rfl; (with_reducible repeat (first | refine blk_drewN ?_ _ | refine blk_drew ?_ | refine blk_alloc ?_ _)); exact blk_put (cs := #[.int .i64 0, .string (⟨#[]⟩ : ByteArray)]) bk 0 _ rfl) Tryz.underlying160 rfl (by kernel_rfl)) rfl ?_; exact ⟨ew, bwS⟩
          ·rw [if_neg c51] at H; have c51b0 : (x8_1 == 0) = false := beq_eq_false_iff_ne.mpr c51; have c51b1 : (x8_1 != 0) = true := bne_iff_ne.mpr c51
           by_cases c53 : 0 ≤ x8_1
           ·rw [if_pos c53] at H; have c53b0 := eq_true c53; have c53b1 : decide (0 ≤ x8_1) = true := decide_eq_true c53; clear c53
            by_cases c54 : x8_1 ≤ (a0.size : Int)
            ·rw [if_pos c54] at H; have c54b0 := eq_true c54; have c54b1 : decide (x8_1 ≤ (a0.size : Int)) = true := decide_eq_true c54; clear c54; have c55b0 := eq_true (od : 0 ≤ x8_1); have c56b0 := eq_true (od : x8_1 ≤ (a0.size : Int)); simp only [Option.some.injEq, Prod.mk.injEq] at H; obtain ⟨rfl, rfl, rfl, rfl⟩ := H
             try go_wp2
             have n0_ := Aside0.mk (blk_drew BK177.out); have n1_ := Aside0.mk (below_drew1 HB.out); clear BK177 HB; have BK177 := n0_; have HB := n1_; clear n0_ n1_; refine start_ (n := 10) (S := fun w' => True) (ds := []) #[false, false, false, false, false, false, false, false, false, false] (by kernel_rfl) rfl rfl trivial (fun hHeld => ?_); refine with_tabW lex_next.tab18 lex_next.bits18 (fun HT_ HW_ => ?_)
             generalize wr.drew = w57 at BK177 HB hHeld ⊢
             refine pure_ (i := 0) (N := some 65) (v := ?_) (a' := ?_) (bitsL 10 1) rfl rfl (any_of HT_.out (by kernel_rfl)) (fun _ _ _ h => h) (Or.inl ⟨by rfl, ?_⟩) ?_ ?_; rotate_left
             ·intro w'; go_simp; with_reducible rfl
             rotate_left
             ·simp only [Act.put, List.setIfInBounds_toArray, List.set_cons_zero, List.set_cons_succ, i64_w, i32_w]; rfl
             refine pure_ (i := 1) (N := some 66) (v := ?_) (a' := ?_) (bitsL 10 3) rfl rfl (any_of HT_.out (by kernel_rfl)) (fun _ _ _ h => h) (Or.inl ⟨by rfl, ?_⟩) ?_ ?_; rotate_left
             ·intro w'; go_simp; with_reducible rfl
             rotate_left
             ·simp only [Act.put, List.setIfInBounds_toArray, List.set_cons_zero, List.set_cons_succ, i64_w, i32_w]; rfl
             refine pure_ (i := 2) (N := some 67) (v := ?_) (a' := ?_) (bitsL 10 7) rfl rfl (any_of HT_.out (by kernel_rfl)) (fun _ _ _ h => h) (Or.inl ⟨by rfl, ?_⟩) ?_ ?_; rotate_left
             ·intro w'; go_simp; with_reducible rfl
             rotate_left
             ·simp only [Act.put, List.setIfInBounds_toArray, List.set_cons_zero, List.set_cons_succ, i64_w, i32_w]; rfl
             refine pure_ (i := 3) (N := some 68) (v := ?_) (a' := ?_) (bitsL 10 15) rfl rfl (any_of HT_.out (by kernel_rfl)) (fun _ _ _ h => h) (Or.inl ⟨by rfl, ?_⟩) ?_ ?_; rotate_left
             ·intro w'; go_simp; with_reducible rfl
             rotate_left
             ·simp only [Act.put, List.setIfInBounds_toArray, List.set_cons_zero, List.set_cons_succ, i64_w, i32_w]; rfl
             refine pure_ (i := 4) (N := some 69) (v := ?_) (a' := ?_) (bitsL 10 31) rfl rfl (any_of HT_.out (by kernel_rfl)) (fun _ _ _ h => h) (Or.inl ⟨by rfl, ?_⟩) ?_ ?_; rotate_left
             ·intro w'; go_simp; with_reducible rfl
             rotate_left
             ·simp only [Act.put, List.setIfInBounds_toArray, List.set_cons_zero, List.set_cons_succ, i64_w, i32_w]; rfl
             refine pure_ (i := 5) (N := some 70) (v := ?_) (a' := ?_) (bitsL 10 63) rfl rfl (any_of HT_.out (by kernel_rfl)) (fun _ _ _ h => h) (Or.inl ⟨by rfl, ?_⟩) ?_ ?_; rotate_left
             ·intro w'; go_simp; with_reducible rfl
             rotate_left
             ·simp only [Act.put, List.setIfInBounds_toArray, List.set_cons_zero, List.set_cons_succ, i64_w, i32_w]; rfl
             refine pure_ (i := 6) (N := some 71) (v := ?_) (a' := ?_) (bitsL 10 127) rfl rfl (any_of HT_.out (by kernel_rfl)) (fun _ _ _ h => h) (Or.inl ⟨by rfl, ?_⟩) ?_ ?_; rotate_left
             ·intro w'; go_simp; with_reducible rfl
             rotate_left
             ·simp only [Act.put, List.setIfInBounds_toArray, List.set_cons_zero, List.set_cons_succ, i64_w, i32_w]; rfl
             refine one_ (i := 7) (N := none) (bitsL 10 255) rfl rfl (one_of HT_.out (by kernel_rfl)) (by decide) (fun K hK => ?_); have hs58 : w57.cell? ⟨gb177, 0, none⟩ = some (.int .i64 0) := (blk_cell BK177.out 0).trans rfl; have hfs58 := blk_frozen BK177.out 0; have hs59 : w57.cell? ⟨gb177, 1, none⟩ = some (.string (⟨#[]⟩ : ByteArray)) := (blk_cell BK177.out 1).trans rfl; have hfs59 := blk_frozen BK177.out 1; refine skip_ (w1 := ?_) (by rfl) rfl ?_ ?_; rotate_left
             ·go_simp; rfl
             refine hK.out _ _ trivial (fun hHeld => ?_); clear hK K; refine pure_ (i := 8) (N := some 3) (v := ?_) (a' := ?_) (bitsL 10 511) rfl rfl (any_of HT_.out (by kernel_rfl)) (fun _ _ _ h => h) (Or.inl ⟨by rfl, ?_⟩) ?_ ?_; rotate_left
             ·intro w'; go_simp; with_reducible rfl
             rotate_left
             ·simp only [Act.put, List.setIfInBounds_toArray, List.set_cons_zero, List.set_cons_succ, i64_w, i32_w]; rfl
             refine pure_ (i := 9) (N := some 4) (v := ?_) (a' := ?_) (bitsL 10 1023) rfl rfl (any_of HT_.out (by kernel_rfl)) (fun _ _ _ h => h) (Or.inl ⟨by rfl, ?_⟩) ?_ ?_; rotate_left
             ·intro w'; go_simp; with_reducible rfl
             rotate_left
             ·simp only [Act.put, List.setIfInBounds_toArray, List.set_cons_zero, List.set_cons_succ, i64_w, i32_w]; rfl
             refine done_ (done_of HT_.out (by kernel_rfl)) ?_
             try go_wp2
             refine bodyPost_ret (results_ctt rfl _ _ gb177 160 #[.int .i64 1, .string (a0.extract 0 (x8_1 : Int).toNat)] (0, 0) _ rfl (by (with_reducible repeat (first | refine blk_drewN ?_ _ | refine blk_drew ?_ | refine blk_alloc ?_ _)); refine blk_put (cs := #[.int .i64 1, .string (⟨#[]⟩ : ByteArray)]) ?_ 1 _ rfl; (with_reducible repeat (first | refine blk_drewN ?_ _ | refine blk_drew ?_ | refine blk_alloc ?_ _)); exact blk_put (cs := #[.int .i64 0, .string (⟨#[]⟩ : ByteArray)]) bk 0 _ rfl) Tryz.underlying160 rfl (by kernel_rfl)) rfl ?_; exact ⟨ew, bwS⟩
            ·rw [if_neg c54] at H; exact absurd H (by simp)
           ·rw [if_neg c53] at H; exact absurd H (by simp)
 ·rw [if_neg c2] at H; exact absurd H (by simp)

end Go.Proofs.YtbjbpgmjijeppaaGreatDoor.Fn
namespace Go.Proofs.YtbjbpgmjijeppaaGreatDoor.Fn
open Go.RowKit Go.Proofs.YtbjbpgmjijeppaaGreatDoorW.PrintWords Go.Proofs.YtbjbpgmjijeppaaGreatDoorW.PrintLast Go.Proofs.YtbjbpgmjijeppaaGreatDoorW.PrintMore
attribute [local go_sem] max2_int min2_int max_two min_two max_three min_three max_four min_four
set_option linter.unusedVariables false
set_option linter.unusedSimpArgs false

def bulletinref12_Text.f (a0 : Int) : Option (Bool) := if a0 = 9 then (some true) else (if a0 ≥ 32 then (if a0 ≤ 126 then (some true) else (some (decide (a0 > 127)))) else (some (decide (a0 > 127))))
end Go.Proofs.YtbjbpgmjijeppaaGreatDoor.Fn
namespace Go.Proofs.YtbjbpgmjijeppaaGreatDoor.Fn
open Go.RowKit Go.Proofs.YtbjbpgmjijeppaaGreatDoorW.PrintWords Go.Proofs.YtbjbpgmjijeppaaGreatDoorW.PrintLast Go.Proofs.YtbjbpgmjijeppaaGreatDoorW.PrintMore
attribute [local go_sem] max2_int min2_int max_two min_two max_three min_three max_four min_four
set_option linter.unusedVariables false
set_option linter.unusedSimpArgs false

mutual
def bulletinref12_Quote.l0 : Nat → ByteArray → ByteArray → Int → Option (ByteArray)
 | 0, _, _, _ => none
 | k + 1, x0, x3, x4 => if x4 < (x0.size : Int) then (if 0 ≤ x4 then (if x4 ≤ (wrap64 (x4 + 1)) then (if (wrap64 (x4 + 1)) ≤ (x0.size : Int) then (if (bt x0 x4) = 34 then (bulletinref12_Quote.j1 k x0 x3 x4 (x0.extract (x4 : Int).toNat ((wrap64 (x4 + 1)) : Int).toNat) true) else (bulletinref12_Quote.j1 k x0 x3 x4 (x0.extract (x4 : Int).toNat ((wrap64 (x4 + 1)) : Int).toNat) ((bt x0 x4) == 92))) else (none)) else (none)) else (none)) else (if 1 + x3.size ≤ 9223372036854775807 then (if ((⟨#[34]⟩ : ByteArray) ++ x3).size + 1 ≤ 9223372036854775807 then (some (((⟨#[34]⟩ : ByteArray) ++ x3) ++ (⟨#[34]⟩ : ByteArray))) else (none)) else (none))
def bulletinref12_Quote.j1 : Nat → ByteArray → ByteArray → Int → ByteArray → Bool → Option (ByteArray)
 | 0, _, _, _, _, _ => none
 | k + 1, x0, x3, x4, x5, x26 => if x26 = true then (if 1 + x5.size ≤ 9223372036854775807 then (if 0 ≤ x4 then (if x4 < (x0.size : Int) then ((bulletinref12_Text.f (bt x0 x4)).bind fun t519 => (if t519 = true then (if x3.size + ((⟨#[92]⟩ : ByteArray) ++ x5).size ≤ 9223372036854775807 then (bulletinref12_Quote.l0 k x0 (x3 ++ ((⟨#[92]⟩ : ByteArray) ++ x5)) (wrap64 (x4 + 1))) else (none)) else (if x3.size + 1 ≤ 9223372036854775807 then (bulletinref12_Quote.l0 k x0 (x3 ++ (⟨#[32]⟩ : ByteArray)) (wrap64 (x4 + 1))) else (none)))) else (none)) else (none)) else (none)) else (if 0 ≤ x4 then (if x4 < (x0.size : Int) then ((bulletinref12_Text.f (bt x0 x4)).bind fun t520 => (if t520 = true then (if x3.size + x5.size ≤ 9223372036854775807 then (bulletinref12_Quote.l0 k x0 (x3 ++ x5) (wrap64 (x4 + 1))) else (none)) else (if x3.size + 1 ≤ 9223372036854775807 then (bulletinref12_Quote.l0 k x0 (x3 ++ (⟨#[32]⟩ : ByteArray)) (wrap64 (x4 + 1))) else (none)))) else (none)) else (none))
end
def bulletinref12_Quote.f (k : Nat) (a0 : ByteArray) : Option (ByteArray) := bulletinref12_Quote.l0 k a0 (⟨#[]⟩ : ByteArray) 0
end Go.Proofs.YtbjbpgmjijeppaaGreatDoor.Fn
namespace Go.Proofs.YtbjbpgmjijeppaaGreatDoor.Fn
open Go.RowKit Go.Proofs.YtbjbpgmjijeppaaGreatDoorW.PrintWords Go.Proofs.YtbjbpgmjijeppaaGreatDoorW.PrintLast Go.Proofs.YtbjbpgmjijeppaaGreatDoorW.PrintMore
attribute [local go_sem] max2_int min2_int max_two min_two max_three min_three max_four min_four
set_option linter.unusedVariables false
set_option linter.unusedSimpArgs false

def bulletinref13_Split.l0 : Nat → ByteArray → Int → List ByteArray → ByteArray → Int → Option (List ByteArray)
 | 0, _, _, _, _, _ => none
 | k + 1, x0, x1, x5, x6, x7 => if x7 < (x0.size : Int) then (if 0 ≤ x7 then (if (bt x0 x7) = x1 then (if x5.length < 8796093022208 then (bulletinref13_Split.l0 k x0 x1 (x5 ++ [x6]) (⟨#[]⟩ : ByteArray) (wrap64 (x7 + 1))) else (none)) else (if x7 ≤ (wrap64 (x7 + 1)) then (if (wrap64 (x7 + 1)) ≤ (x0.size : Int) then (if x6.size + (x0.extract (x7 : Int).toNat ((wrap64 (x7 + 1)) : Int).toNat).size ≤ 9223372036854775807 then (bulletinref13_Split.l0 k x0 x1 x5 (x6 ++ (x0.extract (x7 : Int).toNat ((wrap64 (x7 + 1)) : Int).toNat)) (wrap64 (x7 + 1))) else (none)) else (none)) else (none))) else (none)) else (if x5.length < 8796093022208 then (some (x5 ++ [x6])) else (none))
def bulletinref13_Split.f (k : Nat) (a0 : ByteArray) (a1 : Int) : Option (List ByteArray) := bulletinref13_Split.l0 k a0 a1 ([] : List ByteArray) (⟨#[]⟩ : ByteArray) 0
end Go.Proofs.YtbjbpgmjijeppaaGreatDoor.Fn
namespace Go.Proofs.YtbjbpgmjijeppaaGreatDoor.Fn
open Go.RowKit Go.Proofs.YtbjbpgmjijeppaaGreatDoorW.PrintWords Go.Proofs.YtbjbpgmjijeppaaGreatDoorW.PrintLast Go.Proofs.YtbjbpgmjijeppaaGreatDoorW.PrintMore
attribute [local go_sem] max2_int min2_int max_two min_two max_three min_three max_four min_four
set_option linter.unusedVariables false
set_option linter.unusedSimpArgs false

def bulletinref13_Dotted.l0 : Nat → List ByteArray → Int → Option (Bool)
 | 0, _, _ => none
 | k + 1, x3, x4 => if x4 < (x3.length : Int) then (if 0 ≤ x4 then ((bulletinref12_IsAtom.f k (rdOf ByteArray.empty x3 x4)).bind fun t518 => (if t518 = true then (bulletinref13_Dotted.l0 k x3 (wrap64 (x4 + 1))) else (some false))) else (none)) else (some true)
def bulletinref13_Dotted.f (k : Nat) (a0 : ByteArray) : Option (Bool) := (bulletinref13_Split.f k a0 46).bind fun t514 => (bulletinref13_Dotted.l0 k t514 0)
end Go.Proofs.YtbjbpgmjijeppaaGreatDoor.Fn
namespace Go.Proofs.YtbjbpgmjijeppaaGreatDoor.Fn
open Go.RowKit Go.Proofs.YtbjbpgmjijeppaaGreatDoorW.PrintWords Go.Proofs.YtbjbpgmjijeppaaGreatDoorW.PrintLast Go.Proofs.YtbjbpgmjijeppaaGreatDoorW.PrintMore
attribute [local go_sem] max2_int min2_int max_two min_two max_three min_three max_four min_four
set_option linter.unusedVariables false
set_option linter.unusedSimpArgs false

def bulletinref13_Text.f (k : Nat) (a0_0 : ByteArray) (a0_1 : ByteArray) : Option (ByteArray) := (bulletinref13_Dotted.f k a0_0).bind fun t522 => (if t522 = true then (if a0_0.size + 1 ≤ 9223372036854775807 then (if (a0_0 ++ (⟨#[64]⟩ : ByteArray)).size + a0_1.size ≤ 9223372036854775807 then (some ((a0_0 ++ (⟨#[64]⟩ : ByteArray)) ++ a0_1)) else (none)) else (none)) else ((bulletinref12_Quote.f k a0_0).bind fun t523 => (if t523.size + 1 ≤ 9223372036854775807 then (if (t523 ++ (⟨#[64]⟩ : ByteArray)).size + a0_1.size ≤ 9223372036854775807 then (some ((t523 ++ (⟨#[64]⟩ : ByteArray)) ++ a0_1)) else (none)) else (none))))
end Go.Proofs.YtbjbpgmjijeppaaGreatDoor.Fn
set_option linter.unusedVariables false
namespace Go.Proofs.YtbjbpgmjijeppaaGreatDoor.Pl
open Go.RowKit Go.Proofs.YtbjbpgmjijeppaaGreatDoorW.PrintWords Go.Proofs.YtbjbpgmjijeppaaGreatDoor.Fn

/-! Capital letters, dots, quotes and the sign @. -/
theorem forall_byte {p : UInt8 → Prop} [DecidablePred p] (h : ∀ i : Fin 256, p (UInt8.ofNat i.val)) (c : UInt8) : p c := by
 have := h ⟨c.toNat, c.toNat_lt⟩
 simpa using this
theorem glyphFold_is (s : ByteArray) (h : s.size ≤ 1000000000) : glyph_Fold.f s = some (str (fold (bs s))) := by
 unfold glyph_Fold.f
 rw [if_pos (by omega)]
 rfl

/-! plain: of all bytes -/
end Go.Proofs.YtbjbpgmjijeppaaGreatDoor.Pl
namespace Go.Proofs.YtbjbpgmjijeppaaGreatDoor.Fn
open Go.RowKit Go.Proofs.YtbjbpgmjijeppaaGreatDoorW.PrintWords Go.Proofs.YtbjbpgmjijeppaaGreatDoorW.PrintLast Go.Proofs.YtbjbpgmjijeppaaGreatDoorW.PrintMore
attribute [local go_sem] max2_int min2_int max_two min_two max_three min_three max_four min_four
set_option linter.unusedVariables false
set_option linter.unusedSimpArgs false

def bulletinref06_Fold.l0 : Nat → ByteArray → ByteArray → Int → Option (ByteArray)
 | 0, _, _, _ => none
 | k + 1, x0, x3, x4 => if x4 < (x0.size : Int) then (if 0 ≤ x4 then (if (bt x0 x4) ≥ 65 then (if (bt x0 x4) ≤ 90 then ((some (([((bt x0 x4) + 32) % 256] : List Int) : List Int)).bind fun y446 => (if x3.size + (strOfNums y446).size ≤ 9223372036854775807 then (bulletinref06_Fold.l0 k x0 (x3 ++ (strOfNums y446)) (wrap64 (x4 + 1))) else (none))) else (if x4 ≤ (wrap64 (x4 + 1)) then (if (wrap64 (x4 + 1)) ≤ (x0.size : Int) then (if x3.size + (x0.extract (x4 : Int).toNat ((wrap64 (x4 + 1)) : Int).toNat).size ≤ 9223372036854775807 then (bulletinref06_Fold.l0 k x0 (x3 ++ (x0.extract (x4 : Int).toNat ((wrap64 (x4 + 1)) : Int).toNat)) (wrap64 (x4 + 1))) else (none)) else (none)) else (none))) else (if x4 ≤ (wrap64 (x4 + 1)) then (if (wrap64 (x4 + 1)) ≤ (x0.size : Int) then (if x3.size + (x0.extract (x4 : Int).toNat ((wrap64 (x4 + 1)) : Int).toNat).size ≤ 9223372036854775807 then (bulletinref06_Fold.l0 k x0 (x3 ++ (x0.extract (x4 : Int).toNat ((wrap64 (x4 + 1)) : Int).toNat)) (wrap64 (x4 + 1))) else (none)) else (none)) else (none))) else (none)) else (some x3)
def bulletinref06_Fold.f (k : Nat) (a0 : ByteArray) : Option (ByteArray) := bulletinref06_Fold.l0 k a0 (⟨#[]⟩ : ByteArray) 0
set_option maxHeartbeats 8000000 in
set_option maxRecDepth 100000 in
theorem bulletinref06_Fold.calls (k : Nat) (a0 : ByteArray) (r : ByteArray) (w : World) (h : bulletinref06_Fold.f k a0 = some r) :
  Calls Tryz.prog 56 #[.string a0] w fun e w' => e = .returned (.string r) ∧ Below w.heap.size w w' := by
 have HB := Aside0.mk (Below.refl w.heap.size w); have H : (bulletinref06_Fold.l0 k a0 (⟨#[]⟩ : ByteArray) 0) = some r := h; clear h; have H' := Aside0.mk H; clear H
 go_enter Tryz.func56, Tryz.ntmps56
 go_wp2
 go_loopg [3, 4] k (fun kq v3 v4 w' => ∃ (x3_1 : ByteArray) (x4_1 : Int), v3 = .string x3_1 ∧ v4 = .int .i64 x4_1 ∧ Aside0 (bulletinref06_Fold.l0 kq a0 x3_1 x4_1 = some r) ∧ Aside0 (kq ≤ k) ∧ Aside0 (Below w.heap.size w w'))
 case atStart => exact ⟨((⟨#[]⟩ : ByteArray)), (0), cl, cl, H', ⟨Nat.le_refl _⟩, ⟨bw⟩⟩
 case round =>
  clear H'; obtain ⟨x3_1, x4_1, rfl, rfl, HA, HK1, HB⟩ := hrel; cases gk with
  | zero => exact absurd HA.out (by simp [bulletinref06_Fold.l0])
  | succ k1 =>
   have H := HA.out; clear HA; simp only [bulletinref06_Fold.l0] at H
   by_cases c2 : x4_1 < (a0.size : Int)
   ·rw [if_pos c2] at H; have c2b0 : decide (x4_1 < (a0.size : Int)) = true := decide_eq_true c2; clear c2
    by_cases c3 : 0 ≤ x4_1
    ·rw [if_pos c3] at H; have c3b0 : decide (0 ≤ x4_1) = true := decide_eq_true c3; clear c3
     by_cases c5 : (bt a0 x4_1) ≥ 65
     ·rw [if_pos c5] at H; have c5b0 : decide (65 ≤ (bt a0 x4_1)) = true := decide_eq_true c5; clear c5
      by_cases c7 : (bt a0 x4_1) ≤ 90
      ·rw [if_pos c7] at H; have c7b0 : decide ((bt a0 x4_1) ≤ 90) = true := decide_eq_true c7; clear c7; obtain ⟨y446, hy446⟩ : ∃ y_ : List Int, y_ = (([((bt a0 x4_1) + 32) % 256] : List Int)) := ⟨_, rfl⟩
       replace H : (if x3_1.size + (strOfNums y446).size ≤ 9223372036854775807 then (bulletinref06_Fold.l0 k1 a0 (x3_1 ++ (strOfNums y446)) (wrap64 (x4_1 + 1))) else (none)) = some r := by first | (rw [hy446]; with_reducible exact H) | (have H2_ := (Option.bind_some _ _).symm.trans H; rw [hy446]; with_reducible exact H2_) | (have H2_ := (Option.bind_some _ _).symm.trans H; with_reducible exact H2_) | with_reducible exact H | (rw [hy446]; exact H) | exact H
       have Ny446 := Aside0.mk hy446; clear hy446
       by_cases c9 : x3_1.size + (strOfNums y446).size ≤ 9223372036854775807
       ·rw [if_pos c9] at H; have c9b0 := eq_true c9; have c9b1 : decide (x3_1.size + (strOfNums y446).size ≤ 9223372036854775807) = true := decide_eq_true c9
        try have c9b2 : (9223372036854775807 < x3_1.size + (strOfNums y446).size) = False := eq_false (Nat.not_lt.2 c9)
        have H' := Aside0.mk H; clear H; have p4 : 0 ≤ (x4_1 : Int) := od; have q4 : x4_1 < (a0.size : Int) := od; have hx4 := bt_at a0 x4_1; replace p4 := eq_true p4; replace q4 := eq_true q4; have p6 : 0 ≤ (x4_1 : Int) := od; have q6 : x4_1 < (a0.size : Int) := od; have hx6 := bt_at a0 x4_1; replace p6 := eq_true p6; replace q6 := eq_true q6; have p8 : 0 ≤ (x4_1 : Int) := od; have q8 : x4_1 < (a0.size : Int) := od; have hx8 := bt_at a0 x4_1; replace p8 := eq_true p8; replace q8 := eq_true q8
        go_wp2_with (first | ((with_reducible refine gate_dst (N := 26) rfl ?_); refine Kd.R_lit (Kd.int .u8) _ 5 ?hg (N := 26) ?hd (xs := ([((bt a0 x4_1) + 32) % 256] : List Int)) (inner := [.int .u8 (((bt a0 x4_1) + 32) % 256)]) (ok := fun _ => True) (okp := fun _ => True) ?hr ?hp (fun _ hk => hk) trivial (Below.refl _ _) (Nat.le_refl _) (by simp) ?_; (case hd => rfl); (case hg => rfl); (case hr => first | (go_simp; done) | (go_simp; rfl)); (case hp => exact (Reps.one (show Kd.M (Kd.int .u8) _ _ _ (((bt a0 x4_1) + 32) % 256) [.int .u8 (((bt a0 x4_1) + 32) % 256)] from rfl) (Reps.none _ _))); intro v447 w10 ho11 hb hg_ hnew_; clear hg_ hnew_; (first | rw [← Ny446.out] at ho11 | (simp only [Int.reduceToNat] at ho11; rw [← Ny446.out] at ho11)); have n0_ := Aside0.mk (Kd.R_lower ho11 (below_size bw)); have n1_ := Aside0.mk (below_step bw hb); clear HB; have HO448 := n0_; have HB := n1_; clear n0_ n1_; clear hb ho11; have hcv12 := own_string (P := Tryz.prog) Tryz.underlying47 Tryz.underlying5 Tryz.underlying9 (Kd.own_of_R HO448.out)))
        go_roundg k1
        case measure => have := HK1.out; omega
        case rel => exact ⟨(x3_1 ++ (strOfNums y446)), (wrap64 (x4_1 + 1)), cl, cl, H', ⟨by have := HK1.out; omega⟩, ⟨bw⟩⟩
       ·rw [if_neg c9] at H; exact absurd H (by simp)
      ·rw [if_neg c7] at H; have c7b0 : decide ((bt a0 x4_1) ≤ 90) = false := decide_eq_false c7; clear c7; have c13b0 := eq_true (od : 0 ≤ x4_1)
       by_cases c14 : x4_1 ≤ (wrap64 (x4_1 + 1))
       ·rw [if_pos c14] at H; have c14b0 := eq_true c14; have c14b1 : decide (x4_1 ≤ (wrap64 (x4_1 + 1))) = true := decide_eq_true c14
        by_cases c15 : (wrap64 (x4_1 + 1)) ≤ (a0.size : Int)
        ·rw [if_pos c15] at H; have c15b0 := eq_true c15; have c15b1 : decide ((wrap64 (x4_1 + 1)) ≤ (a0.size : Int)) = true := decide_eq_true c15
         by_cases c16 : x3_1.size + (a0.extract (x4_1 : Int).toNat ((wrap64 (x4_1 + 1)) : Int).toNat).size ≤ 9223372036854775807
         ·rw [if_pos c16] at H; have c16b0 := eq_true c16; have c16b1 : decide (x3_1.size + (a0.extract (x4_1 : Int).toNat ((wrap64 (x4_1 + 1)) : Int).toNat).size ≤ 9223372036854775807) = true := decide_eq_true c16
          try have c16b2 : (9223372036854775807 < x3_1.size + (a0.extract (x4_1 : Int).toNat ((wrap64 (x4_1 + 1)) : Int).toNat).size) = False := eq_false (Nat.not_lt.2 c16)
          try (have c16b3 := c16; simp only [ByteArray.size_append, size_lit, ByteArray.size_extract, List.size_toArray, List.length_cons, List.length_nil, Nat.zero_add, Nat.reduceAdd] at c16b3; have c16b4 := eq_false (Nat.not_lt.2 c16b3))
          have H' := Aside0.mk H; clear H; have p4 : 0 ≤ (x4_1 : Int) := od; have q4 : x4_1 < (a0.size : Int) := od; have hx4 := bt_at a0 x4_1; replace p4 := eq_true p4; replace q4 := eq_true q4; have p6 : 0 ≤ (x4_1 : Int) := od; have q6 : x4_1 < (a0.size : Int) := od; have hx6 := bt_at a0 x4_1; replace p6 := eq_true p6; replace q6 := eq_true q6
          go_wp2
          go_roundg k1
          case measure => have := HK1.out; omega
          case rel => exact ⟨(x3_1 ++ (a0.extract (x4_1 : Int).toNat ((wrap64 (x4_1 + 1)) : Int).toNat)), (wrap64 (x4_1 + 1)), cl, cl, H', ⟨by have := HK1.out; omega⟩, ⟨bw⟩⟩
         ·rw [if_neg c16] at H; exact absurd H (by simp)
        ·rw [if_neg c15] at H; exact absurd H (by simp)
       ·rw [if_neg c14] at H; exact absurd H (by simp)
     ·rw [if_neg c5] at H; have c5b0 : decide (65 ≤ (bt a0 x4_1)) = false := decide_eq_false c5; clear c5; have c17b0 := eq_true (od : 0 ≤ x4_1)
      by_cases c18 : x4_1 ≤ (wrap64 (x4_1 + 1))
      ·rw [if_pos c18] at H; have c18b0 := eq_true c18; have c18b1 : decide (x4_1 ≤ (wrap64 (x4_1 + 1))) = true := decide_eq_true c18
       by_cases c19 : (wrap64 (x4_1 + 1)) ≤ (a0.size : Int)
       ·rw [if_pos c19] at H; have c19b0 := eq_true c19; have c19b1 : decide ((wrap64 (x4_1 + 1)) ≤ (a0.size : Int)) = true := decide_eq_true c19
        by_cases c20 : x3_1.size + (a0.extract (x4_1 : Int).toNat ((wrap64 (x4_1 + 1)) : Int).toNat).size ≤ 9223372036854775807
        ·rw [if_pos c20] at H; have c20b0 := eq_true c20; have c20b1 : decide (x3_1.size + (a0.extract (x4_1 : Int).toNat ((wrap64 (x4_1 + 1)) : Int).toNat).size ≤ 9223372036854775807) = true := decide_eq_true c20
         try have c20b2 : (9223372036854775807 < x3_1.size + (a0.extract (x4_1 : Int).toNat ((wrap64 (x4_1 + 1)) : Int).toNat).size) = False := eq_false (Nat.not_lt.2 c20)
         try (have c20b3 := c20; simp only [ByteArray.size_append, size_lit, ByteArray.size_extract, List.size_toArray, List.length_cons, List.length_nil, Nat.zero_add, Nat.reduceAdd] at c20b3; have c20b4 := eq_false (Nat.not_lt.2 c20b3))
         have H' := Aside0.mk H; clear H; have p4 : 0 ≤ (x4_1 : Int) := od; have q4 : x4_1 < (a0.size : Int) := od; have hx4 := bt_at a0 x4_1; replace p4 := eq_true p4; replace q4 := eq_true q4
         go_wp2
         go_roundg k1
         case measure => have := HK1.out; omega
         case rel => exact ⟨(x3_1 ++ (a0.extract (x4_1 : Int).toNat ((wrap64 (x4_1 + 1)) : Int).toNat)), (wrap64 (x4_1 + 1)), cl, cl, H', ⟨by have := HK1.out; omega⟩, ⟨bw⟩⟩
        ·rw [if_neg c20] at H; exact absurd H (by simp)
       ·rw [if_neg c19] at H; exact absurd H (by simp)
      ·rw [if_neg c18] at H; exact absurd H (by simp)
    ·rw [if_neg c3] at H; exact absurd H (by simp)
   ·rw [if_neg c2] at H; have c2b0 : decide (x4_1 < (a0.size : Int)) = false := decide_eq_false c2; clear c2; obtain rfl := Option.some.inj H
    go_wp2
    go_ret
    exact ⟨ew, bw⟩

end Go.Proofs.YtbjbpgmjijeppaaGreatDoor.Fn
namespace Go.Proofs.YtbjbpgmjijeppaaGreatDoor.Fn
open Go.RowKit Go.Proofs.YtbjbpgmjijeppaaGreatDoorW.PrintWords Go.Proofs.YtbjbpgmjijeppaaGreatDoorW.PrintLast Go.Proofs.YtbjbpgmjijeppaaGreatDoorW.PrintMore
attribute [local go_sem] max2_int min2_int max_two min_two max_three min_three max_four min_four
set_option linter.unusedVariables false
set_option linter.unusedSimpArgs false

mutual
def bulletinref13_label.l0 : Nat → ByteArray → Int → Option (Bool)
 | 0, _, _ => none
 | k + 1, x0, x3 => if x3 < (x0.size : Int) then (if 0 ≤ x3 then (if (bt x0 x3) ≥ 65 then (bulletinref13_label.j1 k x0 x3 (bt x0 x3) (decide ((bt x0 x3) ≤ 90))) else (bulletinref13_label.j1 k x0 x3 (bt x0 x3) false)) else (none)) else (some (x0.toList != ([] : List UInt8)))
def bulletinref13_label.j1 : Nat → ByteArray → Int → Int → Bool → Option (Bool)
 | 0, _, _, _, _ => none
 | k + 1, x0, x3, x4, x20 => if x20 = true then (if x3 = 0 then (if ((x4 + 32) % 256) ≥ 97 then (if ((x4 + 32) % 256) ≤ 122 then (bulletinref13_label.l0 k x0 (wrap64 (x3 + 1))) else (if ((x4 + 32) % 256) ≥ 48 then (if ((x4 + 32) % 256) ≤ 57 then (bulletinref13_label.l0 k x0 (wrap64 (x3 + 1))) else (if ((x4 + 32) % 256) = 45 then (some false) else (some false))) else (if ((x4 + 32) % 256) = 45 then (some false) else (some false)))) else (if ((x4 + 32) % 256) ≥ 48 then (if ((x4 + 32) % 256) ≤ 57 then (bulletinref13_label.l0 k x0 (wrap64 (x3 + 1))) else (if ((x4 + 32) % 256) = 45 then (some false) else (some false))) else (if ((x4 + 32) % 256) = 45 then (some false) else (some false)))) else (if ((x4 + 32) % 256) ≥ 97 then (if ((x4 + 32) % 256) ≤ 122 then (bulletinref13_label.l0 k x0 (wrap64 (x3 + 1))) else (if ((x4 + 32) % 256) ≥ 48 then (if ((x4 + 32) % 256) ≤ 57 then (bulletinref13_label.l0 k x0 (wrap64 (x3 + 1))) else (if ((x4 + 32) % 256) = 45 then (if x3 = (wrap64 ((x0.size : Int) - 1)) then (some false) else (bulletinref13_label.l0 k x0 (wrap64 (x3 + 1)))) else (some false))) else (if ((x4 + 32) % 256) = 45 then (if x3 = (wrap64 ((x0.size : Int) - 1)) then (some false) else (bulletinref13_label.l0 k x0 (wrap64 (x3 + 1)))) else (some false)))) else (if ((x4 + 32) % 256) ≥ 48 then (if ((x4 + 32) % 256) ≤ 57 then (bulletinref13_label.l0 k x0 (wrap64 (x3 + 1))) else (if ((x4 + 32) % 256) = 45 then (if x3 = (wrap64 ((x0.size : Int) - 1)) then (some false) else (bulletinref13_label.l0 k x0 (wrap64 (x3 + 1)))) else (some false))) else (if ((x4 + 32) % 256) = 45 then (if x3 = (wrap64 ((x0.size : Int) - 1)) then (some false) else (bulletinref13_label.l0 k x0 (wrap64 (x3 + 1)))) else (some false))))) else (if x3 = 0 then (if x4 ≥ 97 then (if x4 ≤ 122 then (bulletinref13_label.l0 k x0 (wrap64 (x3 + 1))) else (if x4 ≥ 48 then (if x4 ≤ 57 then (bulletinref13_label.l0 k x0 (wrap64 (x3 + 1))) else (if x4 = 45 then (some false) else (some false))) else (if x4 = 45 then (some false) else (some false)))) else (if x4 ≥ 48 then (if x4 ≤ 57 then (bulletinref13_label.l0 k x0 (wrap64 (x3 + 1))) else (if x4 = 45 then (some false) else (some false))) else (if x4 = 45 then (some false) else (some false)))) else (if x4 ≥ 97 then (if x4 ≤ 122 then (bulletinref13_label.l0 k x0 (wrap64 (x3 + 1))) else (if x4 ≥ 48 then (if x4 ≤ 57 then (bulletinref13_label.l0 k x0 (wrap64 (x3 + 1))) else (if x4 = 45 then (if x3 = (wrap64 ((x0.size : Int) - 1)) then (some false) else (bulletinref13_label.l0 k x0 (wrap64 (x3 + 1)))) else (some false))) else (if x4 = 45 then (if x3 = (wrap64 ((x0.size : Int) - 1)) then (some false) else (bulletinref13_label.l0 k x0 (wrap64 (x3 + 1)))) else (some false)))) else (if x4 ≥ 48 then (if x4 ≤ 57 then (bulletinref13_label.l0 k x0 (wrap64 (x3 + 1))) else (if x4 = 45 then (if x3 = (wrap64 ((x0.size : Int) - 1)) then (some false) else (bulletinref13_label.l0 k x0 (wrap64 (x3 + 1)))) else (some false))) else (if x4 = 45 then (if x3 = (wrap64 ((x0.size : Int) - 1)) then (some false) else (bulletinref13_label.l0 k x0 (wrap64 (x3 + 1)))) else (some false)))))
end
def bulletinref13_label.f (k : Nat) (a0 : ByteArray) : Option (Bool) := bulletinref13_label.l0 k a0 0
end Go.Proofs.YtbjbpgmjijeppaaGreatDoor.Fn
namespace Go.Proofs.YtbjbpgmjijeppaaGreatDoor.Fn
open Go.RowKit Go.Proofs.YtbjbpgmjijeppaaGreatDoorW.PrintWords Go.Proofs.YtbjbpgmjijeppaaGreatDoorW.PrintLast Go.Proofs.YtbjbpgmjijeppaaGreatDoorW.PrintMore
attribute [local go_sem] max2_int min2_int max_two min_two max_three min_three max_four min_four
set_option linter.unusedVariables false
set_option linter.unusedSimpArgs false

def bulletinref13_Domain.l0 : Nat → ByteArray → List ByteArray → Bool → Int → Option (ByteArray × Int)
 | 0, _, _, _, _ => none
 | k + 1, x0, x4, x5, x6 => if x6 < (x4.length : Int) then (if 0 ≤ x6 then ((bulletinref13_label.f k (rdOf ByteArray.empty x4 x6)).bind fun t511 => (if t511 = true then (if ((rdOf ByteArray.empty x4 x6).size : Int) > 63 then (bulletinref13_Domain.l0 k x0 x4 true (wrap64 (x6 + 1))) else (bulletinref13_Domain.l0 k x0 x4 x5 (wrap64 (x6 + 1)))) else (some ((⟨#[]⟩ : ByteArray), 130)))) else (none)) else (if x5 = true then (some ((⟨#[]⟩ : ByteArray), 2)) else ((bulletinref06_Fold.f k x0).bind fun t509 => (some (t509, 0))))
def bulletinref13_Domain.f (k : Nat) (a0 : ByteArray) : Option (ByteArray × Int) := (bulletinref13_Split.f k a0 46).bind fun t506 => (bulletinref13_Domain.l0 k a0 t506 (decide ((a0.size : Int) > 253)) 0)
end Go.Proofs.YtbjbpgmjijeppaaGreatDoor.Fn
namespace Go.Proofs.YtbjbpgmjijeppaaGreatDoor.Fn
open Go.RowKit Go.Proofs.YtbjbpgmjijeppaaGreatDoorW.PrintWords Go.Proofs.YtbjbpgmjijeppaaGreatDoorW.PrintLast Go.Proofs.YtbjbpgmjijeppaaGreatDoorW.PrintMore
attribute [local go_sem] max2_int min2_int max_two min_two max_three min_three max_four min_four
set_option linter.unusedVariables false
set_option linter.unusedSimpArgs false

mutual
def bulletinref13_Why.j0 : Nat → Int → Bool → ByteArray → ByteArray → Option (Int)
 | 0, _, _, _, _ => none
 | k + 1, x4, x18, x525000, x525001 => if x18 = true then (some 130) else (bulletinref13_Why.l0 k x4 0 x525000 x525001)
def bulletinref13_Why.l0 : Nat → Int → Int → ByteArray → ByteArray → Option (Int)
 | 0, _, _, _, _ => none
 | k + 1, x4, x5, x525000, x525001 => if x5 < (x525000.size : Int) then (if 0 ≤ x5 then (if (bt x525000 x5) < 32 then (some 130) else (if (bt x525000 x5) > 126 then (some 130) else (bulletinref13_Why.l0 k x4 (wrap64 (x5 + 1)) x525000 x525001))) else (none)) else (if x4 = 0 then (if (x525000.size : Int) > 64 then (some 2) else ((bulletinref13_Text.f k x525000 x525001).bind fun t527 => (if (t527.size : Int) > 254 then (some 2) else (some 0)))) else (some 2))
end
def bulletinref13_Why.f (k : Nat) (a0_0 : ByteArray) (a0_1 : ByteArray) : Option (Int) := (bulletinref13_Domain.f k a0_1).bind fun bt525 => (if bt525.2 = 130 then (bulletinref13_Why.j0 k bt525.2 true a0_0 a0_1) else (bulletinref13_Why.j0 k bt525.2 (a0_0.toList == ([] : List UInt8)) a0_0 a0_1))
end Go.Proofs.YtbjbpgmjijeppaaGreatDoor.Fn
set_option linter.unusedVariables false
namespace Go.Proofs.YtbjbpgmjijeppaaGreatDoor.Pl
open Go.RowKit Go.Proofs.YtbjbpgmjijeppaaGreatDoorW.PrintWords Go.Proofs.YtbjbpgmjijeppaaGreatDoor.Fn

/-! Layer 13, the document's, over lists of bytes: it answers as the program does. -/
/-! IsAtom -/
/-! Quote -/
theorem text_34 : text 34 = true := by decide +kernel
end Go.Proofs.YtbjbpgmjijeppaaGreatDoor.Pl
namespace Go.Proofs.YtbjbpgmjijeppaaGreatDoor.Fn
open Go.RowKit Go.Proofs.YtbjbpgmjijeppaaGreatDoorW.PrintWords Go.Proofs.YtbjbpgmjijeppaaGreatDoorW.PrintLast Go.Proofs.YtbjbpgmjijeppaaGreatDoorW.PrintMore
attribute [local go_sem] max2_int min2_int max_two min_two max_three min_three max_four min_four
set_option linter.unusedVariables false
set_option linter.unusedSimpArgs false

mutual
def bulletinref12_Scan.l0 : Nat → ByteArray → List (S149) → ByteArray → Int → Int → Bool → Int → Option ((List (S149)) × Int)
 | 0, _, _, _, _, _, _, _ => none
 | k + 1, x0, x4, x5, x6, x7, x8, x9 => if x9 < (x0.size : Int) then (if 0 ≤ x9 then (if x8 = true then ((bulletinref12_Text.f (bt x0 x9)).bind fun t458 => (if t458 = true then (if x6 = 2 then (if x9 ≤ (wrap64 (x9 + 1)) then (if (wrap64 (x9 + 1)) ≤ (x0.size : Int) then (if x5.size + (x0.extract (x9 : Int).toNat ((wrap64 (x9 + 1)) : Int).toNat).size ≤ 9223372036854775807 then (bulletinref12_Scan.l0 k x0 x4 (x5 ++ (x0.extract (x9 : Int).toNat ((wrap64 (x9 + 1)) : Int).toNat)) x6 x7 false (wrap64 (x9 + 1))) else (none)) else (none)) else (none)) else (bulletinref12_Scan.l0 k x0 x4 x5 x6 x7 false (wrap64 (x9 + 1)))) else (some (([] : List (S149)), 3)))) else (if x6 = 1 then ((bulletinref12_atomic.f k (bt x0 x9)).bind fun t459 => (bulletinref12_Scan.j1 k x0 x4 x5 x6 x7 x8 x9 (bt x0 x9) (!t459))) else (bulletinref12_Scan.j1 k x0 x4 x5 x6 x7 x8 x9 (bt x0 x9) false))) else (none)) else (if x6 ≥ 2 then (some (([] : List (S149)), 9)) else (if x6 = 1 then (if x4.length < 5864062014805 then (some ((x4 ++ [(⟨1, x5⟩ : S149)]), 0)) else (none)) else (some (x4, 0))))
def bulletinref12_Scan.j1 : Nat → ByteArray → List (S149) → ByteArray → Int → Int → Bool → Int → Int → Bool → Option ((List (S149)) × Int)
 | 0, _, _, _, _, _, _, _, _, _ => none
 | k + 1, x0, x4, x5, x6, x7, x8, x9, x10, x39 => if x39 = true then (if x4.length < 5864062014805 then (bulletinref12_Scan.j2 k x0 (x4 ++ [(⟨1, x5⟩ : S149)]) (⟨#[]⟩ : ByteArray) 0 x7 x8 x9 x10) else (none)) else (bulletinref12_Scan.j2 k x0 x4 x5 x6 x7 x8 x9 x10)
def bulletinref12_Scan.j2 : Nat → ByteArray → List (S149) → ByteArray → Int → Int → Bool → Int → Int → Option ((List (S149)) × Int)
 | 0, _, _, _, _, _, _, _, _ => none
 | k + 1, x0, x4, x5, x6, x7, x8, x9, x10 => if x10 = 13 then (if (wrap64 (x9 + 2)) < (x0.size : Int) then (if 0 ≤ (wrap64 (x9 + 1)) then (if (wrap64 (x9 + 1)) < (x0.size : Int) then (if (bt x0 (wrap64 (x9 + 1))) = 10 then (if 0 ≤ (wrap64 (x9 + 2)) then (if (bt x0 (wrap64 (x9 + 2))) = 32 then (bulletinref12_Scan.j3 k x0 x4 x5 x6 x7 x8 x9 x10 true) else (bulletinref12_Scan.j3 k x0 x4 x5 x6 x7 x8 x9 x10 ((bt x0 (wrap64 (x9 + 2))) == 9))) else (none)) else (bulletinref12_Scan.j3 k x0 x4 x5 x6 x7 x8 x9 x10 false)) else (none)) else (none)) else (bulletinref12_Scan.j3 k x0 x4 x5 x6 x7 x8 x9 x10 false)) else (bulletinref12_Scan.j3 k x0 x4 x5 x6 x7 x8 x9 x10 false)
def bulletinref12_Scan.j3 : Nat → ByteArray → List (S149) → ByteArray → Int → Int → Bool → Int → Int → Bool → Option ((List (S149)) × Int)
 | 0, _, _, _, _, _, _, _, _, _ => none
 | k + 1, x0, x4, x5, x6, x7, x8, x9, x10, x74 => if x74 = true then (bulletinref12_Scan.l0 k x0 x4 x5 x6 x7 x8 (wrap64 ((wrap64 (x9 + 1)) + 1))) else (if x6 = 2 then (bulletinref12_Scan.j4 k x0 x4 x5 x6 x7 x8 x9 x10 true) else (bulletinref12_Scan.j4 k x0 x4 x5 x6 x7 x8 x9 x10 (x6 == 3)))
def bulletinref12_Scan.j4 : Nat → ByteArray → List (S149) → ByteArray → Int → Int → Bool → Int → Int → Bool → Option ((List (S149)) × Int)
 | 0, _, _, _, _, _, _, _, _, _ => none
 | k + 1, x0, x4, x5, x6, x7, x8, x9, x10, x82 => if x82 = true then (if x10 = 92 then (bulletinref12_Scan.l0 k x0 x4 x5 x6 x7 true (wrap64 (x9 + 1))) else ((bulletinref12_Text.f x10).bind fun t463 => (if t463 = true then (bulletinref12_Scan.j5 k x0 x4 x5 x6 x7 x8 x9 x10) else (some (([] : List (S149)), 3))))) else (bulletinref12_Scan.j5 k x0 x4 x5 x6 x7 x8 x9 x10)
def bulletinref12_Scan.j5 : Nat → ByteArray → List (S149) → ByteArray → Int → Int → Bool → Int → Int → Option ((List (S149)) × Int)
 | 0, _, _, _, _, _, _, _, _ => none
 | k + 1, x0, x4, x5, x6, x7, x8, x9, x10 => if x6 = 2 then (if x10 = 34 then (if x4.length < 5864062014805 then (bulletinref12_Scan.l0 k x0 (x4 ++ [(⟨2, x5⟩ : S149)]) (⟨#[]⟩ : ByteArray) 0 x7 x8 (wrap64 (x9 + 1))) else (none)) else (if 0 ≤ x9 then (if x9 ≤ (wrap64 (x9 + 1)) then (if (wrap64 (x9 + 1)) ≤ (x0.size : Int) then (if x5.size + (x0.extract (x9 : Int).toNat ((wrap64 (x9 + 1)) : Int).toNat).size ≤ 9223372036854775807 then (bulletinref12_Scan.l0 k x0 x4 (x5 ++ (x0.extract (x9 : Int).toNat ((wrap64 (x9 + 1)) : Int).toNat)) x6 x7 x8 (wrap64 (x9 + 1))) else (none)) else (none)) else (none)) else (none))) else (if x6 = 3 then (if x10 = 40 then (bulletinref12_Scan.j6 k x0 x4 x5 x6 (wrap64 (x7 + 1)) x8 x9 x10) else (bulletinref12_Scan.j6 k x0 x4 x5 x6 x7 x8 x9 x10)) else ((bulletinref12_atomic.f k x10).bind fun t467 => (if t467 = true then (if 0 ≤ x9 then (if x9 ≤ (wrap64 (x9 + 1)) then (if (wrap64 (x9 + 1)) ≤ (x0.size : Int) then (if x5.size + (x0.extract (x9 : Int).toNat ((wrap64 (x9 + 1)) : Int).toNat).size ≤ 9223372036854775807 then (bulletinref12_Scan.l0 k x0 x4 (x5 ++ (x0.extract (x9 : Int).toNat ((wrap64 (x9 + 1)) : Int).toNat)) 1 x7 x8 (wrap64 (x9 + 1))) else (none)) else (none)) else (none)) else (none)) else (if x10 = 34 then (bulletinref12_Scan.l0 k x0 x4 x5 2 x7 x8 (wrap64 (x9 + 1))) else (if x10 = 40 then (bulletinref12_Scan.l0 k x0 x4 x5 3 1 x8 (wrap64 (x9 + 1))) else ((bulletinref12_among.f k x10 (⟨#[60, 62, 58, 59, 64, 44, 46]⟩ : ByteArray)).bind fun t468 => (if t468 = true then (if 0 ≤ x9 then (if x9 ≤ (wrap64 (x9 + 1)) then (if (wrap64 (x9 + 1)) ≤ (x0.size : Int) then (if x4.length < 5864062014805 then (bulletinref12_Scan.l0 k x0 (x4 ++ [(⟨3, x0.extract (x9 : Int).toNat ((wrap64 (x9 + 1)) : Int).toNat⟩ : S149)]) x5 x6 x7 x8 (wrap64 (x9 + 1))) else (none)) else (none)) else (none)) else (none)) else (if x10 = 32 then (bulletinref12_Scan.l0 k x0 x4 x5 x6 x7 x8 (wrap64 (x9 + 1))) else (if x10 = 9 then (bulletinref12_Scan.l0 k x0 x4 x5 x6 x7 x8 (wrap64 (x9 + 1))) else (some (([] : List (S149)), 3)))))))))))
def bulletinref12_Scan.j6 : Nat → ByteArray → List (S149) → ByteArray → Int → Int → Bool → Int → Int → Option ((List (S149)) × Int)
 | 0, _, _, _, _, _, _, _, _ => none
 | k + 1, x0, x4, x5, x6, x7, x8, x9, x10 => if x10 = 41 then (bulletinref12_Scan.j7 k x0 x4 x5 x6 (wrap64 (x7 - 1)) x8 x9) else (bulletinref12_Scan.j7 k x0 x4 x5 x6 x7 x8 x9)
def bulletinref12_Scan.j7 : Nat → ByteArray → List (S149) → ByteArray → Int → Int → Bool → Int → Option ((List (S149)) × Int)
 | 0, _, _, _, _, _, _, _ => none
 | k + 1, x0, x4, x5, x6, x7, x8, x9 => if x7 > 16 then (some (([] : List (S149)), 1)) else (if x7 = 0 then (bulletinref12_Scan.l0 k x0 x4 x5 0 x7 x8 (wrap64 (x9 + 1))) else (bulletinref12_Scan.l0 k x0 x4 x5 x6 x7 x8 (wrap64 (x9 + 1))))
end
end Go.Proofs.YtbjbpgmjijeppaaGreatDoor.Fn
set_option linter.unusedVariables false
namespace Go.Proofs.YtbjbpgmjijeppaaGreatDoor.Pl
open Go.RowKit Go.Proofs.YtbjbpgmjijeppaaGreatDoorW.PrintWords Go.Proofs.YtbjbpgmjijeppaaGreatDoor.Fn

/-! Layer 12: tokens, by one machine over lists of bytes; the document's Scan is this machine. -/
inductive Sc where
 | out
 | atom (w : Bytes)
 | quot (w : Bytes) (b : Bool)
 | comm (d : Nat) (b : Bool)
abbrev Tok := Int × Bytes
def whiteB (c : UInt8) : Bool := c == 32 || c == 9
def foldAt : Bytes → Bool
 | a :: b :: c :: _ => a == 13 && b == 10 && whiteB c
 | _ => false
def signB (c : UInt8) : Bool := (⟨#[60, 62, 58, 59, 64, 44, 46]⟩ : ByteArray).data.toList.contains c
def stepOut (acc : List Tok) (c : UInt8) (l : Bytes) : (List Tok × Sc × Bytes) ⊕ Int :=
 if foldAt (c :: l) = true then .inl (acc, .out, l.tail)
 else if atomic c = true then .inl (acc, .atom [c], l)
 else if c = 34 then .inl (acc, .quot [] false, l)
 else if c = 40 then .inl (acc, .comm 1 false, l)
 else if signB c = true then .inl (acc ++ [(3, [c])], .out, l)
 else if whiteB c = true then .inl (acc, .out, l)
 else .inr 3
def commAfter (acc : List Tok) (d : Nat) (l : Bytes) : (List Tok × Sc × Bytes) ⊕ Int :=
 if 16 < d then .inr 1 else if d = 0 then .inl (acc, .out, l) else .inl (acc, .comm d false, l)
def step (acc : List Tok) (st : Sc) (c : UInt8) (l : Bytes) : (List Tok × Sc × Bytes) ⊕ Int :=
 match st with
 | .out => stepOut acc c l
 | .atom w => if atomic c = true then .inl (acc, .atom (w ++ [c]), l) else stepOut (acc ++ [(1, w)]) c l
 | .quot w true => if text c = true then .inl (acc, .quot (w ++ [c]) false, l) else .inr 3
 | .comm d true => if text c = true then .inl (acc, .comm d false, l) else .inr 3
 | .quot w false =>
  if foldAt (c :: l) = true then .inl (acc, .quot w false, l.tail)
  else if c = 92 then .inl (acc, .quot w true, l)
  else if text c = true then (if c = 34 then .inl (acc ++ [(2, w)], .out, l) else .inl (acc, .quot (w ++ [c]) false, l))
  else .inr 3
 | .comm d false =>
  if foldAt (c :: l) = true then .inl (acc, .comm d false, l.tail)
  else if c = 92 then .inl (acc, .comm d true, l)
  else if text c = true then commAfter acc (if c = 40 then d + 1 else if c = 41 then d - 1 else d) l
  else .inr 3
def endOf (acc : List Tok) : Sc → List Tok × Int
 | .out => (acc, 0)
 | .atom w => (acc ++ [(1, w)], 0)
 | _ => ([], 9)
def scan : Nat → List Tok → Sc → Bytes → List Tok × Int
 | _, acc, st, [] => endOf acc st
 | 0, _, _, _ :: _ => ([], 7)
 | k + 1, acc, st, c :: l => match step acc st c l with
  | .inl (acc', st', l') => scan k acc' st' l'
  | .inr e => ([], e)
theorem stepOut_le {acc : List Tok} {c : UInt8} {l : Bytes} {a : List Tok} {s : Sc} {r : Bytes} (h : stepOut acc c l = .inl (a, s, r)) : r.length ≤ l.length := by
 unfold stepOut at h
 repeat' split at h
 all_goals (first | (cases h; done) | (simp only [Sum.inl.injEq, Prod.mk.injEq] at h; obtain ⟨_, _, rfl⟩ := h; simp))
theorem step_le {acc : List Tok} {st : Sc} {c : UInt8} {l : Bytes} {a : List Tok} {s : Sc} {r : Bytes} (h : step acc st c l = .inl (a, s, r)) : r.length ≤ l.length := by
 unfold step commAfter at h
 repeat' split at h
 all_goals (first | exact stepOut_le h | (cases h; done) | (simp only [Sum.inl.injEq, Prod.mk.injEq] at h; obtain ⟨_, _, rfl⟩ := h; simp))
theorem scan_more : ∀ (k : Nat) (acc : List Tok) (st : Sc) (l : Bytes), l.length ≤ k → scan k acc st l = scan (k + 1) acc st l
 | k, acc, st, [], _ => by cases k <;> rfl
 | 0, acc, st, c :: l, h => by simp at h
 | k + 1, acc, st, c :: l, h => by
  rw [scan, scan]
  cases hs : step acc st c l with
  | inr e => rfl
  | inl x =>
   obtain ⟨a, s, r⟩ := x
   have := step_le hs
   simp only [List.length_cons] at h
   exact scan_more k a s r (by omega)
def scanL (acc : List Tok) (st : Sc) (l : Bytes) : List Tok × Int := scan l.length acc st l
theorem scan_enough (k : Nat) (acc : List Tok) (st : Sc) (l : Bytes) (h : l.length ≤ k) : scan k acc st l = scanL acc st l := by
 unfold scanL
 obtain ⟨d, rfl⟩ : ∃ d, k = l.length + d := ⟨k - l.length, by omega⟩
 clear h
 induction d with
 | zero => rfl
 | succ d ih => rw [← Nat.add_assoc, ← scan_more _ _ _ _ (by omega)]; exact ih
theorem scanL_cons (acc : List Tok) (st : Sc) (c : UInt8) (l : Bytes) : scanL acc st (c :: l) = match step acc st c l with
  | .inl (acc', st', l') => scanL acc' st' l'
  | .inr e => ([], e) := by
 rw [scanL, List.length_cons, scan]
 cases hs : step acc st c l with
 | inr e => rfl
 | inl x =>
  obtain ⟨a, s, r⟩ := x
  exact scan_enough _ _ _ _ (step_le hs)

/-! The document's Scan -/
def tok148 (t : Tok) : S149 := ⟨t.1, str t.2⟩
def wOf : Sc → Bytes
 | .atom w => w
 | .quot w _ => w
 | _ => []
def whereOf : Sc → Int
 | .out => 0
 | .atom _ => 1
 | .quot _ _ => 2
 | .comm _ _ => 3
def behindOf : Sc → Bool
 | .quot _ b => b
 | .comm _ b => b
 | _ => false
def deepOk (d : Int) : Sc → Prop
 | .comm n _ => d = n ∧ 1 ≤ n ∧ n ≤ 16
 | _ => 0 ≤ d ∧ d ≤ 16
theorem byte_ofNat (c : UInt8) (n : Nat) (h : n < 256) : ((c.toNat : Int) = ((n : Nat) : Int)) ↔ c = UInt8.ofNat n := by rw [byte_eq c n h]
def res148 (acc : List Tok) (st : Sc) (r : Bytes) : List S149 × Int := ((scanL acc st r).1.map tok148, (scanL acc st r).2)
def Behind (s : ByteArray) (k m : Nat) : Prop := ∀ (acc : List Tok) (st : Sc) (d : Int) (r : Bytes) (j : Nat), r.length ≤ m → (bs s).drop j = r → j ≤ (bs s).length → deepOk d st → acc.length ≤ 2 * j → (wOf st).length ≤ j →
 bulletinref12_Scan.l0 k s (acc.map tok148) (str (wOf st)) (whereOf st) d (behindOf st) (j : Int) = some (res148 acc st r)
theorem tail_drop {s : ByteArray} {i : Nat} {c : UInt8} {l : Bytes} (hd : (bs s).drop i = c :: l) (hf : foldAt (c :: l) = true) : (bs s).drop (i + 2) = l.tail ∧ i + 2 ≤ (bs s).length ∧ l.tail.length ≤ l.length := by
 obtain ⟨h1, h2, h3, h4⟩ := drop_cons hd
 cases l with
 | nil => cases hf
 | cons b l =>
  obtain ⟨g1, g2, g3, g4⟩ := drop_cons h3
  exact ⟨g3, by omega, by simp⟩
end Go.Proofs.YtbjbpgmjijeppaaGreatDoor.Pl
namespace Go.Proofs.YtbjbpgmjijeppaaGreatDoor.Fn
open Go.RowKit Go.Proofs.YtbjbpgmjijeppaaGreatDoorW.PrintWords Go.Proofs.YtbjbpgmjijeppaaGreatDoorW.PrintLast Go.Proofs.YtbjbpgmjijeppaaGreatDoorW.PrintMore
attribute [local go_sem] max2_int min2_int max_two min_two max_three min_three max_four min_four
set_option linter.unusedVariables false
set_option linter.unusedSimpArgs false

def lex_Scan.l0 : Nat → ByteArray → List (S160) → Option ((List (S160)) × Int)
 | 0, _, _ => none
 | k + 1, x0, x4 => if x0.toList = ([] : List UInt8) then (some (x4, 0)) else ((lex_next.f k x0).bind fun bt188 => (if bt188.2.2.2 = 0 then (if bt188.1 = 0 then (lex_Scan.l0 k bt188.2.2.1 x4) else (if x4.length < 5864062014805 then (lex_Scan.l0 k bt188.2.2.1 (x4 ++ [(⟨bt188.1, bt188.2.1⟩ : S160)])) else (none))) else (some (([] : List (S160)), bt188.2.2.2))))
def lex_Scan.f (k : Nat) (a0 : ByteArray) : Option ((List (S160)) × Int) := lex_Scan.l0 k a0 ([] : List (S160))
set_option maxHeartbeats 8000000 in
set_option maxRecDepth 100000 in
theorem lex_Scan.calls (k : Nat) (a0 : ByteArray) (r1 : List (S160)) (r2 : Int) (w : World) (h : lex_Scan.f k a0 = some (r1, r2)) :
  Calls Tryz.prog 103 #[.string a0] w fun e w' => ∃ v0_ : Value, e = .returned (.tuple #[v0_, .int .i64 r2]) ∧ Kd.R k160 160 w' w.heap.size (fun _ => True) v0_ r1 ∧ Below w.heap.size w w' := by
 have hu160 := Tryz.underlying160; have HB := Aside0.mk (Below.refl w.heap.size w); have H : (lex_Scan.l0 k a0 ([] : List (S160))) = some (r1, r2) := h; clear h; have H' := Aside0.mk H; clear H
 go_enter Tryz.func103, Tryz.ntmps103
 go_wp2
 go_loopg [0, 4] k (fun kq v0 v4 w' => ∃ (x0_1 : ByteArray) (x4_1 : List (S160)), v0 = .string x0_1 ∧ Aside0 (lex_Scan.l0 kq x0_1 x4_1 = some (r1, r2)) ∧ Aside0 (kq ≤ k) ∧ Aside0 (Kd.R k160 160 w' w.heap.size (fun _ => True) v4 x4_1) ∧ Aside0 (Below w.heap.size w w'))
 case atStart => exact ⟨(a0), (([] : List (S160))), cl, H', ⟨Nat.le_refl _⟩, ⟨by first | exact Kd.R_nil _ _ _ _ _ | exact Kd.N_nil _ _ _ _ _ | exact Kd.V_nil _ _ _ _ _ | exact Kd.Q_nil _ _ _ _ _ | exact Kd.S_nil _ _ _ _ _⟩, ⟨bw⟩⟩
 case round =>
  clear H'
  try clear c1
  obtain ⟨x0_1, x4_1, rfl, HA, HK1, HO_4, HB⟩ := hrel; cases gk with
  | zero => exact absurd HA.out (by simp [lex_Scan.l0])
  | succ k1 =>
   have H := HA.out; clear HA; simp only [lex_Scan.l0] at H
   by_cases c2 : x0_1.toList = ([] : List UInt8)
   ·rw [if_pos c2] at H; have c2b0 : (x0_1.toList == ([] : List UInt8)) = true := beq_iff_eq.mpr c2; have c2b1 : (x0_1.toList != ([] : List UInt8)) = false := bne_eq_false_iff_eq.mpr c2; clear c2; simp only [Option.some.injEq, Prod.mk.injEq] at H; obtain ⟨rfl, rfl⟩ := H
    go_wp2
    go_ret2
    exact ⟨_, ew, by (with_reducible repeat (first | apply Kd.R_alloc | apply Kd.R_drewN | apply Kd.R_drew)); exact HO_4.out, bw⟩
   ·rw [if_neg c2] at H; have c2b0 : (x0_1.toList == ([] : List UInt8)) = false := beq_eq_false_iff_ne.mpr c2; have c2b1 : (x0_1.toList != ([] : List UInt8)) = true := bne_iff_ne.mpr c2; replace H := Option.bind_eq_some_iff.mp H; obtain ⟨⟨t188, t189, t190, t191⟩, A30, H⟩ := H; replace H : (if t191 = 0 then (if t188 = 0 then (lex_Scan.l0 k1 t190 x4_1) else (if x4_1.length < 5864062014805 then (lex_Scan.l0 k1 t190 (x4_1 ++ [(⟨t188, t189⟩ : S160)])) else (none))) else (some (([] : List (S160)), t191))) = some (r1, r2) := H; have A3 := Aside0.mk A30; clear A30
    by_cases c4 : t191 = 0
    ·rw [if_pos c4] at H; have c4b0 : (t191 == 0) = true := beq_iff_eq.mpr c4; have c4b1 : (t191 != 0) = false := bne_eq_false_iff_eq.mpr c4; clear c4
     by_cases c5 : t188 = 0
     ·rw [if_pos c5] at H; have c5b0 : (t188 == 0) = true := beq_iff_eq.mpr c5; have c5b1 : (t188 != 0) = false := bne_eq_false_iff_eq.mpr c5; clear c5; have H' := Aside0.mk H; clear H
      go_wp2_with (first | ((with_reducible refine gate_callee (f := 122) rfl ?_); refine goesL_ (some 12) rfl rfl Tryz.func122 (by kernel_rfl) rfl #[.string x0_1] rfl am ?_; (with_reducible refine (lex_next.calls k1 x0_1 t188 t189 t190 t191 _ A3.out).mono ?_); rintro e w6 ⟨rfl, hb⟩; refine ⟨_, rfl, ?_⟩; have n0_ := Aside0.mk (Kd.R_below (ra HO_4.out) hb); have n1_ := Aside0.mk (below_step bw hb); clear HO_4; clear HB; have HO_4 := n0_; have HB := n1_; clear n0_ n1_; (try clear hb); (try clear hb2); (try clear hk); (try clear hi)) | ((with_reducible refine gate_dst (N := 5) rfl ?_); refine box_event ?hg (N := 5) ?hd (cs := #[.int .i64 0, .string (⟨#[]⟩ : ByteArray)]) (t := 160) ?hr ?_; (case hd => rfl); (case hg => rfl); (case hr => first | (go_simp; done) | (go_simp; rfl)); intro gb192 hg w7 hbox hb; have n0_ := Aside0.mk (Kd.R_below (Kd.R_elderB (ra HO_4.out) gb192 (Nat.le_of_eq hg.symm)) hb); have n1_ := Aside0.mk (below_step bw hb); have n2_ := Aside0.mk (hbox); have n3_ := Aside0.mk ((by rw [hg]; exact (below_size bw) : w.heap.size ≤ gb192)); have n4_ := Aside0.mk ((by rw [hg]; exact (below_size bw) : w.heap.size ≤ gb192)); clear HO_4; clear HB; have HO_4 := n0_; have HB := n1_; have BK192 := n2_; have GW192 := n3_; have GE192 := n4_; clear n0_ n1_ n2_ n3_ n4_; clear hb hbox hg; have hcz8_0 : w7.cell? ⟨gb192, 0, none⟩ = some (.int .i64 0) := (blk_cell BK192.out 0).trans rfl; have hcz8_1 : w7.cell? ⟨gb192, 1, none⟩ = some (.string (⟨#[]⟩ : ByteArray)) := (blk_cell BK192.out 1).trans rfl; have hfz8_0 := blk_frozen BK192.out 0; have hfz8_1 := blk_frozen BK192.out 1))
      go_roundg k1
      case measure => have := HK1.out; omega
      case rel => exact ⟨(t190), (x4_1), cl, H', ⟨by have := HK1.out; omega⟩, ⟨by (with_reducible repeat (first | apply Kd.R_alloc | apply Kd.R_drewN | apply Kd.R_drew)); exact Kd.R_mono (Kd.R_far (p := ⟨gb192, 1, none⟩) (Kd.R_far (p := ⟨gb192, 0, none⟩) (Kd.R_mono HO_4.out (fun k_ hk => (⟨hk, hk.2⟩ : _ ∧ k_ ≠ gb192))) (fun _ hk => hk.2) (.int .i64 t188)) (fun _ hk => hk.2) (.string t189)) (fun _ hk => trivial)⟩, ⟨bwS⟩⟩
     ·rw [if_neg c5] at H; have c5b0 : (t188 == 0) = false := beq_eq_false_iff_ne.mpr c5; have c5b1 : (t188 != 0) = true := bne_iff_ne.mpr c5
      by_cases c9 : x4_1.length < 5864062014805
      ·rw [if_pos c9] at H; have LMc9 := Aside0.mk c9; clear c9; obtain ⟨y193, hy193⟩ : ∃ y_ : List (S160), y_ = (x4_1 ++ [(⟨t188, t189⟩ : S160)]) := ⟨_, rfl⟩
       replace H : (lex_Scan.l0 k1 t190 y193) = some (r1, r2) := by first | (rw [hy193]; with_reducible exact H) | (have H2_ := (Option.bind_some _ _).symm.trans H; rw [hy193]; with_reducible exact H2_) | (have H2_ := (Option.bind_some _ _).symm.trans H; with_reducible exact H2_) | with_reducible exact H | (rw [hy193]; exact H) | exact H
       have Ny193 := Aside0.mk hy193; clear hy193; have H' := Aside0.mk H; clear H
       go_wp2_with (first | ((with_reducible refine gate_callee (f := 122) rfl ?_); refine goesL_ (some 12) rfl rfl Tryz.func122 (by kernel_rfl) rfl #[.string x0_1] rfl am ?_; (with_reducible refine (lex_next.calls k1 x0_1 t188 t189 t190 t191 _ A3.out).mono ?_); rintro e w10 ⟨rfl, hb⟩; refine ⟨_, rfl, ?_⟩; have n0_ := Aside0.mk (Kd.R_below (ra HO_4.out) hb); have n1_ := Aside0.mk (below_step bw hb); clear HO_4; clear HB; have HO_4 := n0_; have HB := n1_; clear n0_ n1_; (try clear hb); (try clear hb2); (try clear hk); (try clear hi)) | ((with_reducible refine gate_dst (N := 5) rfl ?_); refine box_event ?hg (N := 5) ?hd (cs := #[.int .i64 0, .string (⟨#[]⟩ : ByteArray)]) (t := 160) ?hr ?_; (case hd => rfl); (case hg => rfl); (case hr => first | (go_simp; done) | (go_simp; rfl)); intro gb192 hg w11 hbox hb; have n0_ := Aside0.mk (Kd.R_below (Kd.R_elderB (ra HO_4.out) gb192 (Nat.le_of_eq hg.symm)) hb); have n1_ := Aside0.mk (below_step bw hb); have n2_ := Aside0.mk (hbox); have n3_ := Aside0.mk ((by rw [hg]; exact (below_size bw) : w.heap.size ≤ gb192)); have n4_ := Aside0.mk ((by rw [hg]; exact (below_size bw) : w.heap.size ≤ gb192)); clear HO_4; clear HB; have HO_4 := n0_; have HB := n1_; have BK192 := n2_; have GW192 := n3_; have GE192 := n4_; clear n0_ n1_ n2_ n3_ n4_; clear hb hbox hg; have hcz12_0 : w11.cell? ⟨gb192, 0, none⟩ = some (.int .i64 0) := (blk_cell BK192.out 0).trans rfl; have hcz12_1 : w11.cell? ⟨gb192, 1, none⟩ = some (.string (⟨#[]⟩ : ByteArray)) := (blk_cell BK192.out 1).trans rfl; have hfz12_0 := blk_frozen BK192.out 0; have hfz12_1 := blk_frozen BK192.out 1) | ((with_reducible refine gate_builtin (b := .append) (xs := #[.tmp 22, .tmp 24]) rfl ?_); at_builtin; refine Kd.R_append k160 (w0 := w) w.heap.size rfl (.tmp 22) (.tmp 24) 141 160 (.agg #[(.int .i64 0), (.string ⟨#[]⟩)]) 24 rfl Tryz.underlying141 info160 rfl (by decide) (by omega) u4 x4_1 (⟨t188, t189⟩ : S160) [.int .i64 t188, .string t189] (fun k_ => k_ ≠ gb192) (fun _ => False) rfl (by first | (go_simp; done) | (go_simp; rfl)) ?aP (fun _ hk => hk.elim) ?aF ?aO ?aB ?aS ?aL ?_; (case aP => exact k160_mkM _ _ _ (⟨t188, t189⟩ : S160)); (case aB => exact bwS); (case aF => exact (fun k_ hk => Kd.freshB (g := gb192) (o := .cells #[.int .i64 t188, .string t189] 160 (0, 0)) (by (with_reducible repeat (first | refine blk_drewN ?_ _ | refine blk_drew ?_ | refine blk_alloc ?_ _)); refine blk_put (cs := #[.int .i64 t188, .string (⟨#[]⟩ : ByteArray)]) ?_ 1 _ rfl; (with_reducible repeat (first | refine blk_drewN ?_ _ | refine blk_drew ?_ | refine blk_alloc ?_ _)); exact blk_put (cs := #[.int .i64 0, .string (⟨#[]⟩ : ByteArray)]) bk 0 _ rfl) k_ hk)); (case aO => exact (ra (Kd.R_mono (Kd.R_far (p := ⟨gb192, 1, none⟩) (Kd.R_far (p := ⟨gb192, 0, none⟩) (Kd.R_mono HO_4.out (fun k_ hk => (⟨hk, hk.2⟩ : _ ∧ k_ ≠ gb192))) (fun _ hk => hk.2) (.int .i64 t188)) (fun _ hk => hk.2) (.string t189)) (fun _ hk => hk.1.2)))); (case aS => exact (below_size bwS)); (case aL => have := LMc9.out; omega); intro v194 w13 ho hb hg hat; rw [← Ny193.out] at ho; have n0_ := Aside0.mk (blk_grown (g := gb192) (o := .cells #[.int .i64 t188, .string t189] 160 (0, 0)) (by (with_reducible repeat (first | refine blk_drewN ?_ _ | refine blk_drew ?_ | refine blk_alloc ?_ _)); refine blk_put (cs := #[.int .i64 t188, .string (⟨#[]⟩ : ByteArray)]) ?_ 1 _ rfl; (with_reducible repeat (first | refine blk_drewN ?_ _ | refine blk_drew ?_ | refine blk_alloc ?_ _)); exact blk_put (cs := #[.int .i64 0, .string (⟨#[]⟩ : ByteArray)]) bk 0 _ rfl) hg (Kd.R_away HO_4.out (fun _ hk => hk.2))); have n1_ := Aside0.mk (hb); have n2_ := Aside0.mk (ho); clear BK192; clear HB; clear HO_4; have BK192 := n0_; have HB := n1_; have HO195 := n2_; clear n0_ n1_ n2_; clear ho hb hg hat))
       go_roundg k1
       case measure => have := HK1.out; omega
       case rel => exact ⟨(t190), (y193), cl, H', ⟨by have := HK1.out; omega⟩, ⟨by (with_reducible repeat (first | apply Kd.R_alloc | apply Kd.R_drewN | apply Kd.R_drew)); exact Kd.R_mono HO195.out (fun _ hk => trivial)⟩, ⟨bwS⟩⟩
      ·rw [if_neg c9] at H; exact absurd H (by simp)
    ·rw [if_neg c4] at H; have c4b0 : (t191 == 0) = false := beq_eq_false_iff_ne.mpr c4; have c4b1 : (t191 != 0) = true := bne_iff_ne.mpr c4; simp only [Option.some.injEq, Prod.mk.injEq] at H; obtain ⟨rfl, rfl⟩ := H
     go_wp2_with (first | ((with_reducible refine gate_callee (f := 122) rfl ?_); refine goesL_ (some 12) rfl rfl Tryz.func122 (by kernel_rfl) rfl #[.string x0_1] rfl am ?_; (with_reducible refine (lex_next.calls k1 x0_1 t188 t189 t190 t191 _ A3.out).mono ?_); rintro e w14 ⟨rfl, hb⟩; refine ⟨_, rfl, ?_⟩; have n0_ := Aside0.mk (Kd.R_below (ra HO_4.out) hb); have n1_ := Aside0.mk (below_step bw hb); clear HO_4; clear HB; have HO_4 := n0_; have HB := n1_; clear n0_ n1_; (try clear hb); (try clear hb2); (try clear hk); (try clear hi)) | ((with_reducible refine gate_dst (N := 5) rfl ?_); refine box_event ?hg (N := 5) ?hd (cs := #[.int .i64 0, .string (⟨#[]⟩ : ByteArray)]) (t := 160) ?hr ?_; (case hd => rfl); (case hg => rfl); (case hr => first | (go_simp; done) | (go_simp; rfl)); intro gb192 hg w15 hbox hb; have n0_ := Aside0.mk (Kd.R_below (Kd.R_elderB (ra HO_4.out) gb192 (Nat.le_of_eq hg.symm)) hb); have n1_ := Aside0.mk (below_step bw hb); have n2_ := Aside0.mk (hbox); have n3_ := Aside0.mk ((by rw [hg]; exact (below_size bw) : w.heap.size ≤ gb192)); have n4_ := Aside0.mk ((by rw [hg]; exact (below_size bw) : w.heap.size ≤ gb192)); clear HO_4; clear HB; have HO_4 := n0_; have HB := n1_; have BK192 := n2_; have GW192 := n3_; have GE192 := n4_; clear n0_ n1_ n2_ n3_ n4_; clear hb hbox hg; have hcz16_0 : w15.cell? ⟨gb192, 0, none⟩ = some (.int .i64 0) := (blk_cell BK192.out 0).trans rfl; have hcz16_1 : w15.cell? ⟨gb192, 1, none⟩ = some (.string (⟨#[]⟩ : ByteArray)) := (blk_cell BK192.out 1).trans rfl; have hfz16_0 := blk_frozen BK192.out 0; have hfz16_1 := blk_frozen BK192.out 1))
     go_ret2
     exact ⟨_, ew, by first | exact Kd.R_nil _ _ _ _ _ | exact Kd.N_nil _ _ _ _ _ | exact Kd.V_nil _ _ _ _ _ | exact Kd.Q_nil _ _ _ _ _ | exact Kd.S_nil _ _ _ _ _, bwS⟩

end Go.Proofs.YtbjbpgmjijeppaaGreatDoor.Fn
set_option linter.unusedVariables false
namespace Go.Proofs.YtbjbpgmjijeppaaGreatDoor.Pl
open Go.RowKit Go.Proofs.YtbjbpgmjijeppaaGreatDoorW.PrintWords Go.Proofs.YtbjbpgmjijeppaaGreatDoor.Fn

/-! Layer 12, the program's: its Scan is the same machine. -/
set_option maxRecDepth 100000 in
theorem lexsign_is (c : UInt8) : lex_sign.f (c.toNat : Int) = some (signB c) := forall_byte (p := fun c => lex_sign.f (c.toNat : Int) = some (signB c)) (by decide +kernel) c
set_option maxRecDepth 100000 in
theorem lexwhite_is (c : UInt8) : lex_white.f (c.toNat : Int) = some (whiteB c) := forall_byte (p := fun c => lex_white.f (c.toNat : Int) = some (whiteB c)) (by decide +kernel) c
set_option maxRecDepth 100000 in
theorem atomic_apart (c : UInt8) : atomic c = true → c ≠ 13 ∧ c ≠ 40 ∧ c ≠ 34 ∧ c ≠ 32 ∧ c ≠ 9 ∧ signB c = false := forall_byte (p := fun c => atomic c = true → c ≠ 13 ∧ c ≠ 40 ∧ c ≠ 34 ∧ c ≠ 32 ∧ c ≠ 9 ∧ signB c = false) (by decide +kernel) c
set_option maxRecDepth 100000 in
theorem white_apart (c : UInt8) : whiteB c = true → c ≠ 13 ∧ c ≠ 40 ∧ c ≠ 34 ∧ atomic c = false ∧ signB c = false := forall_byte (p := fun c => whiteB c = true → c ≠ 13 ∧ c ≠ 40 ∧ c ≠ 34 ∧ atomic c = false ∧ signB c = false) (by decide +kernel) c
theorem fold_not {c : UInt8} (h : c ≠ 13) (l : Bytes) : foldAt (c :: l) = false := by
 cases l with
 | nil => rfl
 | cons b l =>
  cases l with
  | nil => rfl
  | cons e l => simp only [foldAt]; simp [h]
theorem lexfold_is (s : ByteArray) (hs : s.size ≤ 1000000) : lex_fold.f s = some (foldAt (bs s)) := by
 have hlen := bs_length s
 unfold lex_fold.f
 cases hb : bs s with
 | nil =>
  rw [hb] at hlen
  simp only [List.length_nil] at hlen
  rw [if_neg (by omega)]; rfl
 | cons a l =>
  have h0 : (bs s).drop 0 = a :: l := by simpa using hb
  cases l with
  | nil =>
   rw [hb] at hlen
   simp only [List.length_cons, List.length_nil] at hlen
   rw [if_neg (by omega)]; rfl
  | cons b l =>
   have h1 : (bs s).drop 1 = b :: l := (drop_cons h0).2.2.1
   cases l with
   | nil =>
    rw [hb] at hlen
    simp only [List.length_cons, List.length_nil] at hlen
    rw [if_neg (by omega)]; rfl
   | cons c l =>
    have h2 : (bs s).drop 2 = c :: l := (drop_cons h1).2.2.1
    rw [hb] at hlen
    simp only [List.length_cons] at hlen
    have e0 : bt s 0 = (a.toNat : Int) := bt_drop h0
    have e1 : bt s 1 = (b.toNat : Int) := bt_drop h1
    have e2 : bt s 2 = (c.toNat : Int) := bt_drop h2
    rw [if_pos (by omega), if_pos (by omega), e0]
    by_cases a13 : a = 13
    ·rw [if_pos (by rw [a13]; rfl), if_pos (by omega), e1]
     by_cases b10 : b = 10
     ·rw [if_pos (by rw [b10]; rfl), if_pos (by omega), e2, lexwhite_is, a13, b10]
      simp [foldAt]
     ·rw [if_neg (c := (b.toNat : Int) = 10) (fun h => b10 ((byte_ofNat b 10 (by decide)).1 h))]
      simp [foldAt, b10]
    ·rw [if_neg (c := (a.toNat : Int) = 13) (fun h => a13 ((byte_ofNat a 13 (by decide)).1 h))]
     simp [foldAt, a13]
def escL : Bytes → Int
 | [] => 9
 | c :: _ => if text c = true then 0 else 3
theorem lexescaped_is (s : ByteArray) : lex_escaped.f s = some (escL (bs s)) := by
 unfold lex_escaped.f
 rw [toList_bs]
 cases hb : bs s with
 | nil => rw [if_pos rfl]; rfl
 | cons c l =>
  have hlen := bs_length s
  rw [hb] at hlen
  simp only [List.length_cons] at hlen
  have e0 : bt s 0 = (c.toNat : Int) := bt_drop (s := s) (i := 0) (by simpa using hb)
  rw [if_neg (by simp), if_pos (by omega), e0, text_is, Option.bind_some]
  show (if text c = true then some (0 : Int) else some 3) = some (if text c = true then 0 else 3)
  cases text c <;> rfl
theorem bs_rest (s : ByteArray) (i : Nat) : bs (s.extract i s.size) = (bs s).drop i := by
 rw [bs_extract, List.take_of_length_le (by rw [bs_length]; exact Nat.le_refl _)]
theorem str_rest (s : ByteArray) (i : Nat) : s.extract i s.size = str ((bs s).drop i) := by
 apply bs_inj
 rw [bs_rest, bs_str]
def QuotSays (s : ByteArray) (k i : Nat) (w l : Bytes) : Prop :=
 (∃ w' r, lex_quoted.l0 k s (numsOf w) (i : Int) = some (2, str w', str r, 0) ∧ r.length ≤ l.length ∧ ∀ acc, scanL acc (.quot w false) l = scanL (acc ++ [(2, w')]) .out r) ∨
 (∃ e, e ≠ 0 ∧ lex_quoted.l0 k s (numsOf w) (i : Int) = some (0, str [], str [], e) ∧ ∀ acc, scanL acc (.quot w false) l = ([], e))
theorem QuotSays.le {s : ByteArray} {k k' i i' : Nat} {w w' l l' : Bytes} (h : QuotSays s k i w l) (hk : lex_quoted.l0 k' s (numsOf w') (i' : Int) = lex_quoted.l0 k s (numsOf w) (i : Int)) (hl : l.length ≤ l'.length) (hs : ∀ acc, scanL acc (.quot w' false) l' = scanL acc (.quot w false) l) : QuotSays s k' i' w' l' := by
 rcases h with ⟨a, r, h1, h2, h3⟩ | ⟨e, h1, h2, h3⟩
 ·exact .inl ⟨a, r, hk.trans h1, by omega, fun acc => (hs acc).trans (h3 acc)⟩
 ·exact .inr ⟨e, h1, hk.trans h2, fun acc => (hs acc).trans (h3 acc)⟩
theorem lexquoted_l0 (s : ByteArray) (hs : s.size ≤ 1000000) : ∀ (n k i : Nat) (w l : Bytes), l.length ≤ n → n + 1 ≤ k → (bs s).drop i = l → i ≤ (bs s).length → w.length ≤ i → QuotSays s k i w l
 | n, k, i, w, [], hn, hk, hd, hi, hw => by
  obtain ⟨k, rfl⟩ : ∃ j, k = j + 1 := ⟨k - 1, by omega⟩
  have := drop_nil hd
  rw [bs_length] at this hi
  refine .inr ⟨9, by decide, ?_, fun acc => rfl⟩
  rw [lex_quoted.l0, if_neg (by omega)]
  rfl
 | 0, k, i, w, c :: l, hn, hk, hd, hi, hw => by simp at hn
 | n + 1, k, i, w, c :: l, hn, hk, hd, hi, hw => by
  obtain ⟨k, rfl⟩ : ∃ j, k = j + 1 := ⟨k - 1, by omega⟩
  obtain ⟨h1, h2, h3, h4⟩ := drop_cons hd
  have h5 : i < s.size := by rw [bs_length] at h1; exact h1
  simp only [List.length_cons] at hn
  have e1 : wrap64 ((i : Int) + 1) = ((i + 1 : Nat) : Int) := wrap_succ i (by omega)
  have e2 : wrap64 (wrap64 ((i : Int) + 1) + 1) = ((i + 2 : Nat) : Int) := by rw [e1, wrap_succ (i + 1) (by omega)]
  have hl0 : ∀ X : Option (Int × ByteArray × ByteArray × Int), X = lex_quoted.l0 (k + 1) s (numsOf w) (i : Int) → lex_quoted.l0 (k + 1) s (numsOf w) (i : Int) = X := fun X h => h.symm
  have hstart : lex_quoted.l0 (k + 1) s (numsOf w) (i : Int) = (if foldAt (c :: l) = true then (lex_quoted.l0 k s (numsOf w) ((i + 2 : Nat) : Int)) else (if (c.toNat : Int) = 92 then (if escL l = 0 then (lex_quoted.l0 k s (numsOf w ++ [bt s ((i + 1 : Nat) : Int)]) ((i + 2 : Nat) : Int)) else some (0, (⟨#[]⟩ : ByteArray), (⟨#[]⟩ : ByteArray), escL l)) else (if (c.toNat : Int) = 34 then some (2, strOfNums (numsOf w), str l, 0) else (if text c = true then lex_quoted.l0 k s (numsOf w ++ [(c.toNat : Int)]) ((i + 1 : Nat) : Int) else some (0, (⟨#[]⟩ : ByteArray), (⟨#[]⟩ : ByteArray), 3))))) := by
   rw [lex_quoted.l0, if_pos (by omega), if_pos (by omega), if_pos (by omega)]
   simp only [Int.toNat_natCast]
   rw [lexfold_is _ (by simp only [ByteArray.size_extract]; omega), bs_rest, hd, Option.bind_some]
   cases hf : foldAt (c :: l) with
   | true => rw [if_pos rfl, if_pos rfl, e2]
   | false =>
    rw [if_neg (c := false = true) (by decide), if_neg (c := false = true) (by decide), bt_drop hd]
    by_cases c92 : (c.toNat : Int) = 92
    ·rw [if_pos c92, if_pos c92, e1, if_pos (by omega), if_pos (by omega)]
     simp only [Int.toNat_natCast]
     rw [lexescaped_is, bs_rest, h3, Option.bind_some]
     by_cases he : escL l = 0
     ·rw [if_pos he, if_pos he]
      have hne : i + 1 < s.size := by
       rcases Nat.lt_or_ge (i + 1) s.size with q | q
       ·exact q
       ·have : l = [] := by rw [← h3]; exact List.drop_of_length_le (by rw [bs_length]; exact q)
        rw [this] at he; cases he
      rw [if_pos (by omega), if_pos (by rw [numsOf_length]; omega), wrap_succ (i + 1) (by omega)]
     ·rw [if_neg he, if_neg he]
    ·rw [if_neg c92, if_neg c92]
     by_cases c34 : (c.toNat : Int) = 34
     ·rw [if_pos c34, if_pos c34, e1, if_pos (by omega), if_pos (by omega)]
      simp only [Int.toNat_natCast]
      rw [str_rest, h3]
     ·rw [if_neg c34, if_neg c34, text_is, Option.bind_some]
      cases ht : text c with
      | true => rw [if_pos rfl, if_pos rfl, if_pos (by rw [numsOf_length]; omega), e1]
      | false => rw [if_neg (c := false = true) (by decide), if_neg (c := false = true) (by decide)]
  cases hf : foldAt (c :: l) with
  | true =>
   obtain ⟨t1, t2, t3⟩ := tail_drop hd hf
   rw [hf, if_pos rfl] at hstart
   refine (lexquoted_l0 s hs n k (i + 2) w l.tail (by omega) (by omega) t1 t2 (by omega)).le hstart (by simp; omega) (fun acc => ?_)
   rw [scanL_cons]
   unfold step
   simp only []
   rw [hf, if_pos rfl]
  | false =>
   rw [hf, if_neg (by decide)] at hstart
   by_cases c92 : c = 92
   ·rw [if_pos (by rw [c92]; rfl)] at hstart
    have hst : ∀ acc, scanL acc (.quot w false) (c :: l) = scanL acc (.quot w true) l := by
     intro acc
     rw [scanL_cons]
     unfold step
     simp only []
     rw [hf, if_neg (by decide), if_pos c92]
    cases hl : l with
    | nil =>
     rw [hl] at hstart
     refine .inr ⟨9, by decide, hstart.trans rfl, fun acc => ?_⟩
     rw [← hl, hst, hl]
     rfl
    | cons x l2 =>
     have hdx : (bs s).drop (i + 1) = x :: l2 := by rw [h3, hl]
     obtain ⟨g1, g2, g3, g4⟩ := drop_cons hdx
     have hsx : ∀ acc, scanL acc (.quot w false) (c :: x :: l2) = if text x = true then scanL acc (.quot (w ++ [x]) false) l2 else ([], 3) := by
      intro acc
      rw [← hl, hst, hl, scanL_cons]
      unfold step
      cases text x <;> rfl
     rw [hl] at hstart hn
     simp only [List.length_cons] at hn
     cases ht : text x with
     | true =>
      rw [show escL (x :: l2) = 0 by show (if text x = true then (0 : Int) else 3) = 0; rw [ht]; rfl, if_pos rfl, bt_drop hdx, show numsOf w ++ [(x.toNat : Int)] = numsOf (w ++ [x]) by simp [numsOf]] at hstart
      refine (lexquoted_l0 s hs n k (i + 2) (w ++ [x]) l2 (by omega) (by omega) g3 (by omega) (by simp; omega)).le hstart (by simp; omega) (fun acc => ?_)
      rw [hsx, ht, if_pos rfl]
     | false =>
      rw [show escL (x :: l2) = 3 by show (if text x = true then (0 : Int) else 3) = 3; rw [ht]; rfl, if_neg (by decide)] at hstart
      exact .inr ⟨3, by decide, hstart, fun acc => by rw [hsx, ht]; rfl⟩
   ·rw [if_neg (c := (c.toNat : Int) = 92) (fun h => c92 ((byte_ofNat c 92 (by decide)).1 h))] at hstart
    by_cases c34 : c = 34
    ·rw [if_pos (by rw [c34]; rfl), strOfNums_of] at hstart
     refine .inl ⟨w, l, hstart, by simp, fun acc => ?_⟩
     rw [scanL_cons]
     unfold step
     simp only []
     rw [hf, if_neg (by decide), if_neg c92, if_pos (by rw [c34]; exact text_34), if_pos c34]
    ·rw [if_neg (c := (c.toNat : Int) = 34) (fun h => c34 ((byte_ofNat c 34 (by decide)).1 h))] at hstart
     cases ht : text c with
     | true =>
      rw [ht, if_pos rfl, show numsOf w ++ [(c.toNat : Int)] = numsOf (w ++ [c]) by simp [numsOf]] at hstart
      refine (lexquoted_l0 s hs n k (i + 1) (w ++ [c]) l (by omega) (by omega) h3 (by omega) (by simp; omega)).le hstart (by simp) (fun acc => ?_)
      rw [scanL_cons]
      unfold step
      simp only []
      rw [hf, ht, if_neg (by decide), if_neg c92, if_pos rfl, if_neg c34]
     | false =>
      rw [ht, if_neg (by decide)] at hstart
      refine .inr ⟨3, by decide, hstart, fun acc => ?_⟩
      rw [scanL_cons]
      unfold step
      simp only []
      rw [hf, ht, if_neg (by decide), if_neg c92, if_neg (by decide)]

def CommSays (s : ByteArray) (k i m : Nat) (l : Bytes) : Prop :=
 (∃ r, lex_comment.l0 k s (m : Int) (i : Int) = some (str r, 0) ∧ r.length ≤ l.length ∧ ∀ acc, scanL acc (.comm m false) l = scanL acc .out r) ∨
 (∃ e, e ≠ 0 ∧ lex_comment.l0 k s (m : Int) (i : Int) = some (str [], e) ∧ ∀ acc, scanL acc (.comm m false) l = ([], e))
theorem CommSays.le {s : ByteArray} {k k' i i' m m' : Nat} {l l' : Bytes} (h : CommSays s k i m l) (hk : lex_comment.l0 k' s (m' : Int) (i' : Int) = lex_comment.l0 k s (m : Int) (i : Int)) (hl : l.length ≤ l'.length) (hs : ∀ acc, scanL acc (.comm m' false) l' = scanL acc (.comm m false) l) : CommSays s k' i' m' l' := by
 rcases h with ⟨r, h1, h2, h3⟩ | ⟨e, h1, h2, h3⟩
 ·exact .inl ⟨r, hk.trans h1, by omega, fun acc => (hs acc).trans (h3 acc)⟩
 ·exact .inr ⟨e, h1, hk.trans h2, fun acc => (hs acc).trans (h3 acc)⟩
theorem text_40 : text 40 = true := by decide +kernel
theorem text_41 : text 41 = true := by decide +kernel
theorem lexcomment_l0 (s : ByteArray) (hs : s.size ≤ 1000000) : ∀ (n k i m : Nat) (l : Bytes), l.length ≤ n → 3 * n + 3 ≤ k → (bs s).drop i = l → i ≤ (bs s).length → 1 ≤ m → m ≤ 16 → CommSays s k i m l
 | n, k, i, m, [], hn, hk, hd, hi, hm1, hm2 => by
  obtain ⟨k, rfl⟩ : ∃ j, k = j + 1 := ⟨k - 1, by omega⟩
  have := drop_nil hd
  rw [bs_length] at this hi
  refine .inr ⟨9, by decide, ?_, fun acc => rfl⟩
  rw [lex_comment.l0, if_neg (by omega), if_pos (by omega)]
  rfl
 | 0, k, i, m, c :: l, hn, hk, hd, hi, hm1, hm2 => by simp at hn
 | n + 1, k, i, m, c :: l, hn, hk, hd, hi, hm1, hm2 => by
  obtain ⟨k, rfl⟩ : ∃ j, k = j + 3 := ⟨k - 3, by omega⟩
  obtain ⟨h1, h2, h3, h4⟩ := drop_cons hd
  have h5 : i < s.size := by rw [bs_length] at h1; exact h1
  simp only [List.length_cons] at hn
  have e1 : wrap64 ((i : Int) + 1) = ((i + 1 : Nat) : Int) := wrap_succ i (by omega)
  have e2 : wrap64 (wrap64 ((i : Int) + 1) + 1) = ((i + 2 : Nat) : Int) := by rw [e1, wrap_succ (i + 1) (by omega)]
  have hstart : lex_comment.l0 (k + 3) s (m : Int) (i : Int) = (if foldAt (c :: l) = true then (lex_comment.l0 (k + 2) s (m : Int) ((i + 2 : Nat) : Int)) else (if (c.toNat : Int) = 92 then (if escL l = 0 then (lex_comment.l0 (k + 2) s (m : Int) ((i + 2 : Nat) : Int)) else some ((⟨#[]⟩ : ByteArray), escL l)) else (if (c.toNat : Int) = 40 then lex_comment.j1 (k + 2) s (m : Int) (i : Int) (c.toNat : Int) ((m : Int) == 16) else lex_comment.j1 (k + 2) s (m : Int) (i : Int) (c.toNat : Int) false))) := by
   rw [lex_comment.l0, if_pos (by omega), if_pos (by omega), if_pos (by omega)]
   simp only [Int.toNat_natCast]
   rw [lexfold_is _ (by simp only [ByteArray.size_extract]; omega), bs_rest, hd, Option.bind_some]
   cases hf : foldAt (c :: l) with
   | true => rw [if_pos rfl, if_pos rfl, e2]
   | false =>
    rw [if_neg (c := false = true) (by decide), if_neg (c := false = true) (by decide), bt_drop hd]
    by_cases c92 : (c.toNat : Int) = 92
    ·rw [if_pos c92, if_pos c92, e1, if_pos (by omega), if_pos (by omega)]
     simp only [Int.toNat_natCast]
     rw [lexescaped_is, bs_rest, h3, Option.bind_some, wrap_succ (i + 1) (by omega)]
    ·rw [if_neg c92, if_neg c92]
  cases hf : foldAt (c :: l) with
  | true =>
   obtain ⟨t1, t2, t3⟩ := tail_drop hd hf
   rw [hf, if_pos rfl] at hstart
   refine (lexcomment_l0 s hs n (k + 2) (i + 2) m l.tail (by omega) (by omega) t1 t2 hm1 hm2).le hstart (by simp; omega) (fun acc => ?_)
   rw [scanL_cons]
   unfold step
   simp only []
   rw [hf, if_pos rfl]
  | false =>
   rw [hf, if_neg (by decide)] at hstart
   by_cases c92 : c = 92
   ·rw [if_pos (by rw [c92]; rfl)] at hstart
    have hst : ∀ acc, scanL acc (.comm m false) (c :: l) = scanL acc (.comm m true) l := by
     intro acc
     rw [scanL_cons]
     unfold step
     simp only []
     rw [hf, if_neg (by decide), if_pos c92]
    cases hl : l with
    | nil =>
     rw [hl] at hstart
     refine .inr ⟨9, by decide, hstart.trans rfl, fun acc => ?_⟩
     rw [← hl, hst, hl]
     rfl
    | cons x l2 =>
     have hdx : (bs s).drop (i + 1) = x :: l2 := by rw [h3, hl]
     obtain ⟨g1, g2, g3, g4⟩ := drop_cons hdx
     have hsx : ∀ acc, scanL acc (.comm m false) (c :: x :: l2) = if text x = true then scanL acc (.comm m false) l2 else ([], 3) := by
      intro acc
      rw [← hl, hst, hl, scanL_cons]
      unfold step
      cases text x <;> rfl
     rw [hl] at hstart hn
     simp only [List.length_cons] at hn
     cases ht : text x with
     | true =>
      rw [show escL (x :: l2) = 0 by show (if text x = true then (0 : Int) else 3) = 0; rw [ht]; rfl, if_pos rfl] at hstart
      refine (lexcomment_l0 s hs n (k + 2) (i + 2) m l2 (by omega) (by omega) g3 (by omega) hm1 hm2).le hstart (by simp; omega) (fun acc => ?_)
      rw [hsx, ht, if_pos rfl]
     | false =>
      rw [show escL (x :: l2) = 3 by show (if text x = true then (0 : Int) else 3) = 3; rw [ht]; rfl, if_neg (by decide)] at hstart
      exact .inr ⟨3, by decide, hstart, fun acc => by rw [hsx, ht]; rfl⟩
   ·rw [if_neg (c := (c.toNat : Int) = 92) (fun h => c92 ((byte_ofNat c 92 (by decide)).1 h))] at hstart
    have hst : text c = true → ∀ acc, scanL acc (.comm m false) (c :: l) = (match commAfter acc (if c = 40 then m + 1 else if c = 41 then m - 1 else m) l with | .inl (a, t, r) => scanL a t r | .inr e => ([], e)) := by
     intro ht acc
     rw [scanL_cons]
     unfold step
     simp only []
     rw [hf, ht, if_neg (by decide), if_neg c92, if_pos rfl]
     all_goals rfl
    by_cases c40 : c = 40
    ·have ht : text c = true := by rw [c40]; exact text_40
     rw [if_pos (by rw [c40]; rfl), lex_comment.j1] at hstart
     by_cases h16 : m = 16
     ·rw [show ((m : Int) == 16) = true by rw [h16]; rfl, if_pos rfl] at hstart
      refine .inr ⟨1, by decide, hstart, fun acc => ?_⟩
      rw [hst ht, if_pos c40]
      unfold commAfter
      rw [if_pos (by omega)]
     ·rw [show ((m : Int) == 16) = false by rw [beq_eq_false_iff_ne]; omega, if_neg (by decide), if_pos (by rw [c40]; rfl), e1, wrap_id (by omega) (by omega), show ((m : Int) + 1) = ((m + 1 : Nat) : Int) by omega] at hstart
      refine (lexcomment_l0 s hs n (k + 1) (i + 1) (m + 1) l (by omega) (by omega) h3 (by omega) (by omega) (by omega)).le hstart (by simp) (fun acc => ?_)
      rw [hst ht, if_pos c40]
      unfold commAfter
      rw [if_neg (by omega), if_neg (by omega)]
    ·rw [if_neg (c := (c.toNat : Int) = 40) (fun h => c40 ((byte_ofNat c 40 (by decide)).1 h)), lex_comment.j1, if_neg (by decide), if_neg (c := (c.toNat : Int) = 40) (fun h => c40 ((byte_ofNat c 40 (by decide)).1 h))] at hstart
     by_cases c41 : c = 41
     ·have ht : text c = true := by rw [c41]; exact text_41
      rw [if_pos (by rw [c41]; rfl), lex_comment.j2] at hstart
      by_cases h1' : m = 1
      ·rw [show ((m : Int) == 1) = true by rw [h1']; rfl, if_pos rfl, e1, if_pos (by omega), if_pos (by omega), if_neg (by decide)] at hstart
       simp only [Int.toNat_natCast] at hstart
       rw [str_rest, h3] at hstart
       refine .inl ⟨l, hstart, by simp, fun acc => ?_⟩
       rw [hst ht, if_neg c40, if_pos c41, h1']
       rfl
      ·rw [show ((m : Int) == 1) = false by rw [beq_eq_false_iff_ne]; omega, if_neg (by decide), if_pos (by rw [c41]; rfl), e1, wrap_id (by omega) (by omega), show ((m : Int) - 1) = ((m - 1 : Nat) : Int) by omega] at hstart
       refine (lexcomment_l0 s hs n k (i + 1) (m - 1) l (by omega) (by omega) h3 (by omega) (by omega) (by omega)).le hstart (by simp) (fun acc => ?_)
       rw [hst ht, if_neg c40, if_pos c41]
       unfold commAfter
       rw [if_neg (by omega), if_neg (by omega)]
     ·rw [if_neg (c := (c.toNat : Int) = 41) (fun h => c41 ((byte_ofNat c 41 (by decide)).1 h)), lex_comment.j2, if_neg (by decide), if_neg (c := (c.toNat : Int) = 41) (fun h => c41 ((byte_ofNat c 41 (by decide)).1 h)), text_is, Option.bind_some] at hstart
      cases ht : text c with
      | true =>
       rw [ht, if_pos rfl, e1] at hstart
       refine (lexcomment_l0 s hs n k (i + 1) m l (by omega) (by omega) h3 (by omega) hm1 hm2).le hstart (by simp) (fun acc => ?_)
       rw [hst ht, if_neg c40, if_neg c41]
       unfold commAfter
       rw [if_neg (by omega), if_neg (by omega)]
      | false =>
       rw [ht, if_neg (by decide)] at hstart
       refine .inr ⟨3, by decide, hstart, fun acc => ?_⟩
       rw [scanL_cons]
       unfold step
       simp only []
       rw [hf, ht, if_neg (by decide), if_neg c92, if_neg (by decide)]

theorem lexatom_l0 (s : ByteArray) (hs : s.size ≤ 1000000) : ∀ (n k i : Nat) (l : Bytes), l.length ≤ n → n + 1 ≤ k → (bs s).drop i = l → i ≤ (bs s).length → 1 ≤ i →
  ∃ j, i ≤ j ∧ j ≤ (bs s).length ∧ lex_next.l0 k s (i : Int) = some (1, str ((bs s).take j), str ((bs s).drop j), 0) ∧ ∀ acc, scanL acc (.atom ((bs s).take i)) l = scanL (acc ++ [(1, (bs s).take j)]) .out ((bs s).drop j)
 | n, k, i, [], hn, hk, hd, hi, h1 => by
  obtain ⟨k, rfl⟩ : ∃ j, k = j + 1 := ⟨k - 1, by omega⟩
  have := drop_nil hd
  have hl := bs_length s
  refine ⟨i, Nat.le_refl _, hi, ?_, fun acc => by rw [hd]; rfl⟩
  rw [lex_next.l0, if_neg (by omega), if_neg (by omega), if_pos (by omega), if_pos (by omega)]
  simp only [Int.toNat_natCast]
  rw [str_rest, show s.extract 0 i = str ((bs s).take i) by apply bs_inj; rw [bs_extract, bs_str, List.drop_zero]]
 | 0, k, i, c :: l, hn, hk, hd, hi, h1 => by simp at hn
 | n + 1, k, i, c :: l, hn, hk, hd, hi, h0 => by
  obtain ⟨k, rfl⟩ : ∃ j, k = j + 1 := ⟨k - 1, by omega⟩
  obtain ⟨h1, h2, h3, h4⟩ := drop_cons hd
  have h5 : i < s.size := by rw [bs_length] at h1; exact h1
  simp only [List.length_cons] at hn
  cases ha : atomic c with
  | true =>
   obtain ⟨j, q1, q2, q3, q4⟩ := lexatom_l0 s hs n k (i + 1) l (by omega) (by omega) h3 (by omega) (by omega)
   refine ⟨j, by omega, q2, ?_, fun acc => ?_⟩
   ·rw [lex_next.l0, if_pos (by omega), if_pos (by omega), bt_drop hd, atomic_is, Option.bind_some, ha, if_pos rfl, wrap_succ i (by omega)]
    exact q3
   ·rw [scanL_cons]
    unfold step
    simp only []
    rw [ha, if_pos rfl, ← h4]
    exact q4 acc
  | false =>
   refine ⟨i, Nat.le_refl _, by omega, ?_, fun acc => ?_⟩
   ·rw [lex_next.l0, if_pos (by omega), if_pos (by omega), bt_drop hd, atomic_is, Option.bind_some, ha, if_neg (by decide), if_neg (by omega), if_pos (by omega)]
    simp only [Int.toNat_natCast]
    rw [str_rest, show s.extract 0 i = str ((bs s).take i) by apply bs_inj; rw [bs_extract, bs_str, List.drop_zero]]
   ·rw [hd, scanL_cons, scanL_cons]
    unfold step
    simp only []
    rw [ha, if_neg (by decide)]
theorem wrap_01 : wrap64 ((0 : Int) + 1) = ((1 : Nat) : Int) := wrap_succ 0 (by decide)
theorem lexnext_is (s : ByteArray) (hs : s.size ≤ 1000000) (c : UInt8) (l : Bytes) (hb : bs s = c :: l) (k : Nat) (hk : 3 * s.size + 10 ≤ k) :
  (∃ (kd : Int) (t r : Bytes), lex_next.f k s = some (kd, str t, str r, 0) ∧ r.length ≤ l.length ∧ ∀ acc, scanL acc .out (c :: l) = scanL (if kd = 0 then acc else acc ++ [(kd, t)]) .out r) ∨
  (∃ (kd : Int) (t : Bytes) (r : ByteArray) (e : Int), e ≠ 0 ∧ lex_next.f k s = some (kd, str t, r, e) ∧ ∀ acc, scanL acc .out (c :: l) = ([], e)) := by
 have hlen := bs_length s
 rw [hb] at hlen
 simp only [List.length_cons] at hlen
 have hd : (bs s).drop 0 = c :: l := by rw [hb]; rfl
 have hd1 : (bs s).drop 1 = l := (drop_cons hd).2.2.1
 have hbt : bt s 0 = (c.toNat : Int) := bt_drop hd
 have eE : s.extract 1 s.size = str l := by rw [str_rest, hd1]
 have hsc : ∀ acc, scanL acc .out (c :: l) = (match stepOut acc c l with | .inl (a, t, r) => scanL a t r | .inr e => ([], e)) := by
  intro acc
  rw [scanL_cons]
  rfl
 have hout : ∀ (a b d e f g : Bool), foldAt (c :: l) = a → atomic c = b → signB c = f → whiteB c = g → ∀ acc, stepOut acc c l = if a = true then .inl (acc, .out, l.tail) else if b = true then .inl (acc, .atom [c], l) else if c = 34 then .inl (acc, .quot [] false, l) else if c = 40 then .inl (acc, .comm 1 false, l) else if f = true then .inl (acc ++ [(3, [c])], .out, l) else if g = true then .inl (acc, .out, l) else .inr 3 := by
  intro a b d e f g h1 h2 h3 h4 acc
  unfold stepOut
  rw [h1, h2, h3, h4]
 unfold lex_next.f
 rw [if_pos (by omega), hbt, lexwhite_is, Option.bind_some]
 cases hw : whiteB c with
 | true =>
  obtain ⟨n13, n40, n34, na, ns⟩ := white_apart c hw
  have hf := fold_not n13 l
  rw [if_pos rfl, if_pos (by omega), eE]
  refine .inl ⟨0, [], l, rfl, Nat.le_refl _, fun acc => ?_⟩
  rw [hsc, hout false false false false false true hf na ns hw, if_neg (by decide), if_neg (by decide), if_neg n34, if_neg n40, if_neg (by decide), if_pos rfl, if_pos rfl]
 | false =>
  rw [if_neg (by decide), lexfold_is s hs, Option.bind_some, hb]
  cases hf : foldAt (c :: l) with
  | true =>
   obtain ⟨t1, t2, t3⟩ := tail_drop hd hf
   rw [bs_length] at t2
   rw [if_pos rfl, if_pos (by omega), show s.extract 2 s.size = str l.tail by rw [str_rest]; congr 1]
   refine .inl ⟨0, [], l.tail, rfl, by simp, fun acc => ?_⟩
   rw [hsc, hout true _ false false _ _ hf rfl rfl rfl, if_pos rfl, if_pos rfl]
  | false =>
   rw [if_neg (c := false = true) (by decide)]
   by_cases c40 : c = 40
   ·have na : atomic c = false := by rw [c40]; decide +kernel
    rw [if_pos (by rw [c40]; rfl)]
    obtain ⟨k, rfl⟩ : ∃ j, k = j + 2 := ⟨k - 2, by omega⟩
    have hcm : lex_comment.f (k + 2) s = lex_comment.l0 k s ((1 : Nat) : Int) ((1 : Nat) : Int) := by
     unfold lex_comment.f
     rw [lex_comment.l0, if_pos (by omega), if_pos (by decide), if_pos (by omega), show s.extract (0 : Int).toNat s.size = s from extract_all s, lexfold_is s hs, hb, hf, Option.bind_some, if_neg (by decide), hbt, if_neg (c := (c.toNat : Int) = 92) (by rw [c40]; decide), if_pos (by rw [c40]; rfl), show ((0 : Int) == 16) = false from rfl, lex_comment.j1, if_neg (by decide), if_pos (by rw [c40]; rfl), wrap_01]
    rw [hcm]
    have hso : ∀ acc, scanL acc .out (c :: l) = scanL acc (.comm 1 false) l := by
     intro acc
     rw [hsc, hout false false false false _ _ hf na rfl rfl, if_neg (by decide), if_neg (by decide), if_neg (by rw [c40]; decide), if_pos c40]
    rcases lexcomment_l0 s hs l.length k 1 1 l (Nat.le_refl _) (by omega) hd1 (by rw [hb]; simp) (by decide) (by decide) with ⟨r, h1, h2, h3⟩ | ⟨e, h1, h2, h3⟩
    ·rw [h1]
     exact .inl ⟨0, [], r, rfl, h2, fun acc => by rw [hso, h3, if_pos rfl]⟩
    ·rw [h2]
     exact .inr ⟨0, [], str [], e, h1, rfl, fun acc => by rw [hso, h3]⟩
   ·rw [if_neg (c := (c.toNat : Int) = 40) (fun h => c40 ((byte_ofNat c 40 (by decide)).1 h))]
    by_cases c34 : c = 34
    ·have na : atomic c = false := by rw [c34]; decide +kernel
     rw [if_pos (by rw [c34]; rfl)]
     have hso : ∀ acc, scanL acc .out (c :: l) = scanL acc (.quot [] false) l := by
      intro acc
      rw [hsc, hout false false false false _ _ hf na rfl rfl, if_neg (by decide), if_neg (by decide), if_pos c34]
     rcases lexquoted_l0 s hs l.length k 1 [] l (Nat.le_refl _) (by omega) hd1 (by rw [hb]; simp) (by simp) with ⟨w', r, h1, h2, h3⟩ | ⟨e, h1, h2, h3⟩
     ·rw [show lex_quoted.f k s = lex_quoted.l0 k s (numsOf []) ((1 : Nat) : Int) from rfl, h1]
      exact .inl ⟨2, w', r, rfl, h2, fun acc => by rw [hso, h3, if_neg (by decide)]⟩
     ·rw [show lex_quoted.f k s = lex_quoted.l0 k s (numsOf []) ((1 : Nat) : Int) from rfl, h2]
      exact .inr ⟨0, [], str [], e, h1, rfl, fun acc => by rw [hso, h3]⟩
    ·rw [if_neg (c := (c.toNat : Int) = 34) (fun h => c34 ((byte_ofNat c 34 (by decide)).1 h)), lexsign_is, Option.bind_some]
     cases hsg : signB c with
     | true =>
      have na : atomic c = false := by
       cases ha : atomic c with
       | false => rfl
       | true => have := (atomic_apart c ha).2.2.2.2.2; rw [hsg] at this; cases this
      rw [if_pos rfl, if_pos (by decide), if_pos (by omega), eE, show s.extract 0 1 = str [c] from extract_one (i := 0) hd]
      refine .inl ⟨3, [c], l, rfl, Nat.le_refl _, fun acc => ?_⟩
      rw [hsc, hout false false false false true false hf na hsg hw, if_neg (by decide), if_neg (by decide), if_neg c34, if_neg c40, if_pos rfl, if_neg (by decide)]
     | false =>
      rw [if_neg (c := false = true) (by decide)]
      obtain ⟨k, rfl⟩ : ∃ j, k = j + 1 := ⟨k - 1, by omega⟩
      cases ha : atomic c with
      | false =>
       rw [lex_next.l0, if_pos (by omega), if_pos (by decide), hbt, atomic_is, ha, Option.bind_some, if_neg (by decide), if_pos rfl]
       refine .inr ⟨0, [], _, 3, by decide, rfl, fun acc => ?_⟩
       rw [hsc, hout false false false false false false hf ha hsg hw, if_neg (by decide), if_neg (by decide), if_neg c34, if_neg c40, if_neg (by decide), if_neg (by decide)]
      | true =>
       rw [lex_next.l0, if_pos (by omega), if_pos (by decide), hbt, atomic_is, ha, Option.bind_some, if_pos rfl, wrap_01]
       obtain ⟨j, q1, q2, q3, q4⟩ := lexatom_l0 s hs l.length k 1 l (Nat.le_refl _) (by omega) hd1 (by rw [hb]; simp) (by decide)
       rw [q3]
       refine .inl ⟨1, _, _, rfl, ?_, fun acc => ?_⟩
       ·rw [hb]
        simp only [List.length_drop, List.length_cons]
        omega
       ·rw [hsc, hout false true false false _ _ hf ha rfl rfl, if_neg (by decide), if_pos rfl, if_neg (by decide), ← q4 acc, hb]
        rfl
def tok142 (t : Tok) : S160 := ⟨t.1, str t.2⟩
theorem lexScan_l0 : ∀ (n k : Nat) (s : ByteArray) (acc : List Tok), s.size ≤ n → s.size ≤ 1000000 → 4 * n + 20 ≤ k → acc.length + s.size ≤ 1000000 →
  lex_Scan.l0 k s (acc.map tok142) = some ((scanL acc .out (bs s)).1.map tok142, (scanL acc .out (bs s)).2)
 | n, k, s, acc, hn, hs, hk, ha => by
  obtain ⟨k, rfl⟩ : ∃ j, k = j + 1 := ⟨k - 1, by omega⟩
  have hlen := bs_length s
  rw [lex_Scan.l0, toList_bs]
  cases hb : bs s with
  | nil => rw [if_pos rfl]; rfl
  | cons c l =>
   rw [hb] at hlen
   simp only [List.length_cons] at hlen
   obtain ⟨n, rfl⟩ : ∃ j, n = j + 1 := ⟨n - 1, by omega⟩
   rw [if_neg (by simp)]
   rcases lexnext_is s hs c l hb k (by omega) with ⟨kd, t, r, h1, h2, h3⟩ | ⟨kd, t, r, e, h0, h1, h3⟩
   ·rw [h1, Option.bind_some, if_pos rfl, h3]
    by_cases hkd : kd = 0
    ·rw [if_pos hkd, if_pos hkd, lexScan_l0 n k (str r) acc (by rw [str_size]; omega) (by rw [str_size]; omega) (by omega) (by rw [str_size]; omega), bs_str]
    ·rw [if_neg hkd, if_neg hkd, if_pos (by rw [List.length_map]; omega), show acc.map tok142 ++ [(⟨kd, str t⟩ : S160)] = (acc ++ [(kd, t)]).map tok142 by simp [tok142],
      lexScan_l0 n k (str r) (acc ++ [(kd, t)]) (by rw [str_size]; omega) (by rw [str_size]; omega) (by omega) (by rw [str_size]; simp; omega), bs_str]
   ·rw [h1, Option.bind_some, if_neg h0, h3]
    rfl
theorem lexScan_is (s : ByteArray) (hs : s.size ≤ 1000000) (k : Nat) (hk : 4 * s.size + 20 ≤ k) : lex_Scan.f k s = some ((scanL [] .out (bs s)).1.map tok142, (scanL [] .out (bs s)).2) := by
 have := lexScan_l0 s.size k s [] (Nat.le_refl _) hs hk (by simpa using hs)
 unfold lex_Scan.f
 exact this
end Go.Proofs.YtbjbpgmjijeppaaGreatDoor.Pl
set_option linter.unusedVariables false
set_option linter.unusedSimpArgs false
namespace Go.Proofs.YtbjbpgmjijeppaaGreatDoor.Pl
open Go.RowKit Go.Proofs.YtbjbpgmjijeppaaGreatDoorW.PrintWords Go.Proofs.YtbjbpgmjijeppaaGreatDoor.Fn

/-! The reference's glyph functions, as the plain ones. -/
theorem fold_rounds (s : ByteArray) (hs : s.size ≤ 1000000000) : ∀ (l : Bytes) (k i : Nat) (acc : Bytes), (bs s).drop i = l → l.length < k → acc.length ≤ i →
  bulletinref06_Fold.l0 k s (str acc) (i : Int) = some (str (acc ++ fold l)) := by
 intro l
 induction l with
 | nil =>
  intro k i acc h hk ha
  obtain ⟨k, rfl⟩ : ∃ m, k = m + 1 := ⟨k - 1, by omega⟩
  have := drop_nil h
  rw [bs_length] at this
  simp only [bulletinref06_Fold.l0]
  rw [if_neg (by omega)]
  simp [fold]
 | cons c r ih =>
  intro k i acc h hk ha
  obtain ⟨k, rfl⟩ : ∃ m, k = m + 1 := ⟨k - 1, by omega⟩
  obtain ⟨h1, h2, h3, h4⟩ := drop_cons h
  rw [bs_length] at h1
  have hc := byte_lt c
  have hx := extract_one h
  have hw := wrap_succ i (by omega)
  simp only [bulletinref06_Fold.l0]
  rw [if_pos (by omega), if_pos (by omega), bt_drop h, hw]
  have hn := ih k (i + 1) (acc ++ [foldB c]) h3 (by simpa using hk) (by simp; omega)
  have hz : (str acc).size = acc.length := str_size acc
  have hfin : some (str (acc ++ [foldB c] ++ fold r)) = some (str (acc ++ fold (c :: r))) := by simp [fold]
  by_cases a : (c.toNat : Int) ≥ 65
  ·rw [if_pos a]
   by_cases b : (c.toNat : Int) ≤ 90
   ·rw [if_pos b]
    have e : strOfNums [((c.toNat : Int) + 32) % 256] = str [foldB c] := by
     rw [nums_one]
     congr 1
     have hf := foldB_up c ⟨by omega, b⟩
     have : (((c.toNat : Int) + 32) % 256).toNat = (foldB c).toNat := by omega
     rw [this, ofNat_toNat]
    simp only [Option.bind_some]
    rw [e, str_app, if_pos (by rw [hz, str_size]; simp; omega), hn, hfin]
   ·rw [if_neg b]
    have hf : foldB c = c := by unfold foldB; rw [if_neg (by omega)]
    rw [if_pos (by omega), if_pos (by omega), Int.toNat_natCast, Int.toNat_natCast, hx, str_app, if_pos (by rw [hz, str_size]; simp; omega)]
    rw [hf] at hn hfin
    rw [hn, hfin]
  ·rw [if_neg a]
   have hf : foldB c = c := by unfold foldB; rw [if_neg (by omega)]
   rw [if_pos (by omega), if_pos (by omega), Int.toNat_natCast, Int.toNat_natCast, hx, str_app, if_pos (by rw [hz, str_size]; simp; omega)]
   rw [hf] at hn hfin
   rw [hn, hfin]
theorem ref_fold (s : ByteArray) (hs : s.size ≤ 1000000000) (k : Nat) (hk : s.size < k) : bulletinref06_Fold.f k s = some (str (fold (bs s))) := by
 unfold bulletinref06_Fold.f
 have := fold_rounds s hs (bs s) k 0 [] (by simp) (by rw [bs_length]; exact hk) (by simp)
 simpa [str] using this

end Go.Proofs.YtbjbpgmjijeppaaGreatDoor.Pl
set_option linter.unusedVariables false
namespace Go.Proofs.YtbjbpgmjijeppaaGreatDoor.Pl
open Go.RowKit Go.Proofs.YtbjbpgmjijeppaaGreatDoorW.PrintWords Go.Proofs.YtbjbpgmjijeppaaGreatDoor.Fn

/-! The document's labels, domains, right addresses. -/
def labN (n : Int) : Prop := (97 ≤ n ∧ n ≤ 122) ∨ (65 ≤ n ∧ n ≤ 90) ∨ (48 ≤ n ∧ n ≤ 57) ∨ n = 45
instance (n : Int) : Decidable (labN n) := by unfold labN; infer_instance
end Go.Proofs.YtbjbpgmjijeppaaGreatDoor.Pl
namespace Go.Proofs.YtbjbpgmjijeppaaGreatDoor.Fn
open Go.RowKit Go.Proofs.YtbjbpgmjijeppaaGreatDoorW.PrintWords Go.Proofs.YtbjbpgmjijeppaaGreatDoorW.PrintLast Go.Proofs.YtbjbpgmjijeppaaGreatDoorW.PrintMore
attribute [local go_sem] max2_int min2_int max_two min_two max_three min_three max_four min_four
set_option linter.unusedVariables false
set_option linter.unusedSimpArgs false

mutual
def addr_Of.j0 : Nat → List (S160) → ByteArray → Bool → Option (ByteArray × ByteArray × Int)
 | 0, _, _, _ => none
 | k + 1, x0, x4, x21 => if x21 = true then (some ((⟨#[]⟩ : ByteArray), (⟨#[]⟩ : ByteArray), 130)) else (if 1 ≤ (x0.length : Int) then ((addr_joined.f k (x0.drop 1) true).bind fun bt263 => (if bt263.2.2 = true then (addr_Of.j1 k x4 bt263.1 (decide ((bt263.2.1.length : Int) > 0))) else (addr_Of.j1 k x4 bt263.1 true))) else (none))
def addr_Of.j1 : Nat → ByteArray → ByteArray → Bool → Option (ByteArray × ByteArray × Int)
 | 0, _, _, _ => none
 | k + 1, x4, x6, x36 => if x36 = true then (some ((⟨#[]⟩ : ByteArray), (⟨#[]⟩ : ByteArray), 130)) else ((glyph_Fold.f x6).bind fun t268 => ((addr_why.f k x4 t268).bind fun t270 => (if t270 = 0 then (some (x4, t268, 0)) else (some ((⟨#[]⟩ : ByteArray), (⟨#[]⟩ : ByteArray), t270)))))
end
def addr_Of.f (k : Nat) (l0 : List (S160)) : Option (ByteArray × ByteArray × Int) := (addr_joined.f k l0 false).bind fun bt252 => (if bt252.2.2 = true then ((addr_is.f bt252.2.1 (⟨#[64]⟩ : ByteArray)).bind fun t257 => (addr_Of.j0 k bt252.2.1 bt252.1 (!t257))) else (addr_Of.j0 k bt252.2.1 bt252.1 true))
set_option maxHeartbeats 8000000 in
set_option maxRecDepth 100000 in
theorem addr_Of.calls (k : Nat) (A0 : Option Addr) (c0 : Nat) (l0 : List (S160)) (r1 : ByteArray) (r2 : ByteArray) (r3 : Int) (w : World) (hr0 : Kd.C k160 w A0 l0.length l0) (hc0 : l0.length ≤ c0) (h : addr_Of.f k l0 = some (r1, r2, r3)) :
  Calls Tryz.prog 149 #[.slice A0 l0.length c0] w fun e w' => e = .returned (.tuple #[.agg #[.string r1, .string r2], .int .i64 r3]) ∧ Below w.heap.size w w' := by
 have hu51 := Tryz.underlying51; have HR0 := Aside0.mk hr0; have HC0 := Aside0.mk hc0; clear hr0 hc0; have HB := Aside0.mk (Below.refl w.heap.size w); have H : ((addr_joined.f k l0 false).bind fun bt252 => (if bt252.2.2 = true then ((addr_is.f bt252.2.1 (⟨#[64]⟩ : ByteArray)).bind fun t257 => (addr_Of.j0 k bt252.2.1 bt252.1 (!t257))) else (addr_Of.j0 k bt252.2.1 bt252.1 true))) = some (r1, r2, r3) := h; clear h; replace H := Option.bind_eq_some_iff.mp H; obtain ⟨⟨t252, t253, t256⟩, A20, H⟩ := H; replace H : (if t256 = true then ((addr_is.f t253 (⟨#[64]⟩ : ByteArray)).bind fun t257 => (addr_Of.j0 k t253 t252 (!t257))) else (addr_Of.j0 k t253 t252 true)) = some (r1, r2, r3) := H; have A2 := Aside0.mk A20; clear A20; have HC3 := Aside0.mk H; clear H
 go_enter Tryz.func149, Tryz.ntmps149
 go_upto_region 2 with (first | ((with_reducible refine gate_dst (N := 2) rfl ?_); (try (refine gate_guard (by rfl) ?_; dsimp only)); refine box_event ?hg (N := 2) ?hd (cs := #[.string (⟨#[]⟩ : ByteArray), .string (⟨#[]⟩ : ByteArray)]) (t := 51) ?hr ?_; (case hd => rfl); (case hg => rfl); (case hr => first | (go_simp; done) | (go_simp; rfl)); intro gb251 hg w4 hbox hb; have n0_ := Aside0.mk (below_step bw hb); have n1_ := Aside0.mk (hbox); have n2_ := Aside0.mk ((by rw [hg]; exact (below_size bw) : w.heap.size ≤ gb251)); have n3_ := Aside0.mk ((by rw [hg]; exact (below_size bw) : w.heap.size ≤ gb251)); clear HB; have HB := n0_; have BK251 := n1_; have GW251 := n2_; have GE251 := n3_; clear n0_ n1_ n2_ n3_; clear hb hbox hg) | ((with_reducible refine gate_callee (f := 153) rfl ?_); refine goesL_ (some 11) rfl rfl Tryz.func153 (by kernel_rfl) rfl #[.slice A0 l0.length c0, .bool false] rfl am ?_; (with_reducible refine (addr_joined.calls k (fun k_ => k_ < w.heap.size) _ _ l0 false t252 t253 t256 _ ?side1 A2.out).mono ?_); (case side1 => exact Kd.V_mk HC0.out (Kd.F_below (Kd.C_F k160_heap HR0.out) bwS)); rintro e w5 ⟨v254, rfl, ho0, hb⟩; refine ⟨_, rfl, ?_⟩; have n0_ := Aside0.mk (Kd.V_lower (Kd.V_mono (ok' := fun k_ => k_ ≠ gb251) ho0 (fun k_ hk_ => Or.elim hk_ (fun hs_ => fun e_ => Nat.not_le.2 hs_ (by rw [e_]; exact GW251.out)) (fun hn_ => (Kd.freshB (g := gb251) (o := .cells #[.string (⟨#[]⟩ : ByteArray), .string (⟨#[]⟩ : ByteArray)] 51 (0, 0)) bk k_ hn_)))) (below_size bwS)); have n1_ := Aside0.mk (blk_below (g := gb251) (o := .cells #[.string (⟨#[]⟩ : ByteArray), .string (⟨#[]⟩ : ByteArray)] 51 (0, 0)) bk hb); have n2_ := Aside0.mk (below_step bwS hb); clear BK251; clear HB; have HO255 := n0_; have BK251 := n1_; have HB := n2_; clear n0_ n1_ n2_; (try clear hb); (try clear hb2); (try clear hk); (try clear hi); (try clear ho0)))
 (try simp only [Act.put, List.setIfInBounds_toArray, List.set_cons_zero, List.set_cons_succ])
 go_cut [21] (fun v21 wc => ∃ (kq : Nat) (x21_2 : Bool), v21 = .bool x21_2 ∧ Aside0 (addr_Of.j0 kq t253 t252 x21_2 = some (r1, r2, r3)) ∧ Aside0 (kq ≤ k) ∧ Aside0 (Kd.V k160 160 wc w.heap.size (fun k_ => k_ ≠ gb251) v254 t253) ∧ Aside0 (wc.heap[gb251]? = some (.cells #[.string (⟨#[]⟩ : ByteArray), .string (⟨#[]⟩ : ByteArray)] 51 (0, 0))) ∧ Aside0 (Below w.heap.size w wc))
 case first =>
  have H := HC3.out; clear HC3
  by_cases c6 : t256 = true
  ·subst c6; have H1 : ((addr_is.f t253 (⟨#[64]⟩ : ByteArray)).bind fun t257 => (addr_Of.j0 k t253 t252 (!t257))) = some (r1, r2, r3) := by rw [if_pos rfl] at H; exact H
   clear H; have H := H1; clear H1; replace H := Option.bind_eq_some_iff.mp H; obtain ⟨t257, A70, H⟩ := H; replace H : (addr_Of.j0 k t253 t252 (!t257)) = some (r1, r2, r3) := H; have A7 := Aside0.mk A70; clear A70; have H' := Aside0.mk H; clear H; obtain ⟨Ao8, co8, eo8⟩ := Kd.V_slice HO255.out; subst eo8
   go_wp2_with (first | (go_at_call 154; (with_reducible refine (addr_is.calls _ _ t253 (⟨#[64]⟩ : ByteArray) t257 _ ?side1 ?side2 A7.out).mono ?_); (case side1 => repeat (first | exact (Kd.V_reads' HO255.out).2.2 | (with_reducible refine Kd.C_alloc ?_ _) | (with_reducible refine Kd.C_drewN ?_ _) | (with_reducible refine Kd.C_drew ?_))); (case side2 => exact (Kd.V_reads' HO255.out).2.1); rintro e w' ⟨rfl, ⟨nd, rfl⟩⟩))
   go_meet
   case rel => exact ⟨_, (!t257), cl, H', ⟨by first | omega | exact Nat.le_refl _⟩, ⟨by (with_reducible repeat (first | apply Kd.V_alloc | apply Kd.V_drewN | apply Kd.V_drew)); exact HO255.out⟩, ⟨bk⟩, ⟨bwS⟩⟩
  ·replace c6 := Bool.eq_false_iff.mpr c6; subst c6; have H1 : (addr_Of.j0 k t253 t252 true) = some (r1, r2, r3) := by rw [if_neg (show ¬ (false = true) by decide)] at H; exact H
   clear H; have H := H1; clear H1; have H' := Aside0.mk H; clear H
   go_wp2
   go_meet
   case rel => exact ⟨_, (true), cl, H', ⟨by first | omega | exact Nat.le_refl _⟩, ⟨by (with_reducible repeat (first | apply Kd.V_alloc | apply Kd.V_drewN | apply Kd.V_drew)); exact HO255.out⟩, ⟨bk⟩, ⟨bwS⟩⟩
 case rest =>
  clear HC3
  try clear c1
  try clear p2
  try clear c6
  obtain ⟨kq, x21_2, rfl, HA, HJ2, HO_0, BK251, HB⟩ := hcut; cases kq with
  | zero => exact absurd HA.out (by simp [addr_Of.j0])
  | succ kj2 =>
   have H := HA.out; clear HA; simp only [addr_Of.j0] at H
   by_cases c9 : x21_2 = true
   ·subst c9; have H1 : (some ((⟨#[]⟩ : ByteArray), (⟨#[]⟩ : ByteArray), 130)) = some (r1, r2, r3) := by rw [if_pos rfl] at H; exact H
    clear H; have H := H1; clear H1; simp only [Option.some.injEq, Prod.mk.injEq] at H; obtain ⟨rfl, rfl, rfl⟩ := H; have hcz10_0 : wc.cell? ⟨gb251, 0, none⟩ = some (.string (⟨#[]⟩ : ByteArray)) := (blk_cell BK251.out 0).trans rfl; have hcz10_1 : wc.cell? ⟨gb251, 1, none⟩ = some (.string (⟨#[]⟩ : ByteArray)) := (blk_cell BK251.out 1).trans rfl; have hfz10_0 := blk_frozen BK251.out 0; have hfz10_1 := blk_frozen BK251.out 1
    go_wp2
    refine bodyPost_ret (results_ct rfl _ _ gb251 51 #[.string (⟨#[]⟩ : ByteArray), .string (⟨#[]⟩ : ByteArray)] (0, 0) _ rfl (by (with_reducible repeat (first | refine blk_drewN ?_ _ | refine blk_drew ?_ | refine blk_alloc ?_ _)); refine blk_put (cs := #[.string (⟨#[]⟩ : ByteArray), .string (⟨#[]⟩ : ByteArray)]) ?_ 1 _ rfl; (with_reducible repeat (first | refine blk_drewN ?_ _ | refine blk_drew ?_ | refine blk_alloc ?_ _)); exact blk_put (cs := #[.string (⟨#[]⟩ : ByteArray), .string (⟨#[]⟩ : ByteArray)]) bk 0 _ rfl) Tryz.underlying51 rfl (by kernel_rfl)) rfl ?_; exact ⟨ew, bwS⟩
   ·replace c9 := Bool.eq_false_iff.mpr c9; subst c9; have H1 : (if 1 ≤ (t253.length : Int) then ((addr_joined.f kj2 (t253.drop 1) true).bind fun bt263 => (if bt263.2.2 = true then (addr_Of.j1 kj2 t252 bt263.1 (decide ((bt263.2.1.length : Int) > 0))) else (addr_Of.j1 kj2 t252 bt263.1 true))) else (none)) = some (r1, r2, r3) := by rw [if_neg (show ¬ (false = true) by decide)] at H; exact H
    clear H; have H := H1; clear H1
    by_cases c11 : 1 ≤ (t253.length : Int)
    ·rw [if_pos c11] at H; have c11b0 := eq_true c11; have c11b1 : decide (1 ≤ (t253.length : Int)) = true := decide_eq_true c11; clear c11; obtain ⟨y258, hy258⟩ : ∃ y_ : List (S160), y_ = (t253.drop 1) := ⟨_, rfl⟩
     replace H : ((addr_joined.f kj2 y258 true).bind fun bt263 => (if bt263.2.2 = true then (addr_Of.j1 kj2 t252 bt263.1 (decide ((bt263.2.1.length : Int) > 0))) else (addr_Of.j1 kj2 t252 bt263.1 true))) = some (r1, r2, r3) := by first | (rw [hy258]; with_reducible exact H) | (have H2_ := (Option.bind_some _ _).symm.trans H; rw [hy258]; with_reducible exact H2_) | (have H2_ := (Option.bind_some _ _).symm.trans H; with_reducible exact H2_) | with_reducible exact H | (rw [hy258]; exact H) | exact H
     have Ny258 := Aside0.mk hy258; clear hy258; replace H := Option.bind_eq_some_iff.mp H; obtain ⟨⟨t263, t264, t267⟩, A120, H⟩ := H; replace H : (if t267 = true then (addr_Of.j1 kj2 t252 t263 (decide ((t264.length : Int) > 0))) else (addr_Of.j1 kj2 t252 t263 true)) = some (r1, r2, r3) := H; have A12 := Aside0.mk A120; clear A120; have HC13 := Aside0.mk H; clear H; obtain ⟨Ao15, co15, eo15⟩ := Kd.V_slice HO_0.out; subst eo15; have q14 : (1 : Int) ≤ ((t253.length : Int) : Int) := od; obtain ⟨i014, hi014, _, hsz14, _⟩ := info_parts info160; have hroom14 : t253.length ≤ co15 := (Kd.V_reads' HO_0.out).2.1; have hC14 : Kd.F k160 _ _ Ao15 t253.length t253 := (Kd.V_at (base := w.heap.size) HO_0.out).2.2; have hcut14 := cut_from (P := Tryz.prog) 141 160 .i64 Tryz.underlying141 hi014 2 hsz14 Ao15 t253.length co15 1 (by omega) q14; have hr14 := Kd.F_cut (m := (1 : Int).toNat) (c := co15) hC14 (by omega) hroom14; obtain ⟨A14, hA14⟩ : ∃ A1, A1 = (if co15 = (1 : Int).toNat then Ao15 else (Ao15 : Option Addr).map (·.add ((1 : Int).toNat * 2))) := ⟨_, rfl⟩
     obtain ⟨c14, hc14⟩ : ∃ c1, c1 = co15 - (1 : Int).toNat := ⟨_, rfl⟩
     have hy14 : y258.length = t253.length - (1 : Int).toNat := (by rw [Ny258.out, List.length_drop] <;> omega)
     rw [show (t253).drop (1 : Int).toNat = y258 from Ny258.out.symm] at hr14; replace hr14 : Kd.F k160 _ _ A14 y258.length y258 := (by rw [hA14]; exact hr14)
     rw [← hy14, ← hA14, ← hc14] at hcut14; have HO262 := Aside0.mk (show Kd.V k160 160 _ w.heap.size _ (.slice A14 y258.length c14) y258 from Kd.V_mk (by rw [hy14, hc14]; exact Nat.sub_le_sub_right hroom14 _) hr14); have HC262 := Aside0.mk (show y258.length ≤ c14 from by rw [hy14, hc14]; exact Nat.sub_le_sub_right hroom14 _); clear hr14 hC14 hroom14 hi014 hsz14 hc14; have KY14 := Aside0.mk hy14; have KA14 := Aside0.mk hA14; clear hy14 hA14; replace q14 := eq_true q14
     go_upto_region 5 with (first | ((with_reducible refine gate_callee (f := 153) rfl ?_); refine goesL_ (some 26) rfl rfl Tryz.func153 (by kernel_rfl) rfl #[.slice A14 y258.length c14, .bool true] rfl am ?_; (with_reducible refine (addr_joined.calls kj2 (fun k_ => k_ ≠ gb251) _ _ y258 true t263 t264 t267 _ ?side1 A12.out).mono ?_); (case side1 => exact HO262.out); rintro e w16 ⟨v265, rfl, ho0, hb⟩; refine ⟨_, rfl, ?_⟩; have n0_ := Aside0.mk (Kd.V_below (by (with_reducible repeat (first | apply Kd.V_alloc | apply Kd.V_drewN | apply Kd.V_drew)); exact HO_0.out) hb); have n1_ := Aside0.mk (Kd.V_below (by (with_reducible repeat (first | apply Kd.V_alloc | apply Kd.V_drewN | apply Kd.V_drew)); exact HO262.out) hb); have n2_ := Aside0.mk (Kd.V_lower (Kd.V_mono (ok' := fun k_ => k_ ≠ gb251) ho0 (fun k_ hk_ => Or.elim hk_ (fun hs_ => hs_) (fun hn_ => (Kd.freshB (g := gb251) (o := .cells #[.string (⟨#[]⟩ : ByteArray), .string (⟨#[]⟩ : ByteArray)] 51 (0, 0)) bk k_ hn_)))) (below_size bwS)); have n3_ := Aside0.mk (blk_below (g := gb251) (o := .cells #[.string (⟨#[]⟩ : ByteArray), .string (⟨#[]⟩ : ByteArray)] 51 (0, 0)) bk hb); have n4_ := Aside0.mk (below_step bwS hb); clear HO_0; clear HO262; clear BK251; clear HB; have HO_0 := n0_; have HO262 := n1_; have HO266 := n2_; have BK251 := n3_; have HB := n4_; clear n0_ n1_ n2_ n3_ n4_; (try clear hb); (try clear hb2); (try clear hk); (try clear hi); (try clear ho0)))
     (try simp only [Act.put, List.setIfInBounds_toArray, List.set_cons_zero, List.set_cons_succ])
     go_cut [36] (fun v36 wc => ∃ (kq : Nat) (x36_12 : Bool), v36 = .bool x36_12 ∧ Aside0 (addr_Of.j1 kq t252 t263 x36_12 = some (r1, r2, r3)) ∧ Aside0 (kq ≤ kj2) ∧ Aside0 (wc.heap[gb251]? = some (.cells #[.string (⟨#[]⟩ : ByteArray), .string (⟨#[]⟩ : ByteArray)] 51 (0, 0))) ∧ Aside0 (Below w.heap.size w wc))
     case first =>
      have H := HC13.out; clear HC13
      by_cases c17 : t267 = true
      ·subst c17; have H1 : (addr_Of.j1 kj2 t252 t263 (decide ((t264.length : Int) > 0))) = some (r1, r2, r3) := by rw [if_pos rfl] at H; exact H
       clear H; have H := H1; clear H1; have H' := Aside0.mk H; clear H; obtain ⟨Ao18, co18, eo18⟩ := Kd.V_slice HO266.out; subst eo18
       go_wp2
       go_meet
       case rel => exact ⟨_, (decide ((t264.length : Int) > 0)), cl, H', ⟨by have := HJ2.out; first | omega | exact Nat.le_refl _⟩, ⟨bk⟩, ⟨bwS⟩⟩
      ·replace c17 := Bool.eq_false_iff.mpr c17; subst c17; have H1 : (addr_Of.j1 kj2 t252 t263 true) = some (r1, r2, r3) := by rw [if_neg (show ¬ (false = true) by decide)] at H; exact H
       clear H; have H := H1; clear H1; have H' := Aside0.mk H; clear H
       go_wp2
       go_meet
       case rel => exact ⟨_, (true), cl, H', ⟨by have := HJ2.out; first | omega | exact Nat.le_refl _⟩, ⟨bk⟩, ⟨bwS⟩⟩
     case rest =>
      clear HC13
      try clear c1
      try clear q1
      try clear p2
      try clear c6
      try clear c9
      try clear c11
      try clear c11b0
      try clear c11b1
      try clear c14
      try clear q14
      try clear c15
      try clear c17
      try clear hcz10_0
      try clear hcz10_1
      try clear hfz10_0
      try clear hfz10_1
      try clear p2
      try clear q14
      obtain ⟨kq, x36_12, rfl, HA, HJ12, BK251, HB⟩ := hcut; cases kq with
      | zero => exact absurd HA.out (by simp [addr_Of.j1])
      | succ kj12 =>
       have H := HA.out; clear HA; simp only [addr_Of.j1] at H
       by_cases c19 : x36_12 = true
       ·subst c19; have H1 : (some ((⟨#[]⟩ : ByteArray), (⟨#[]⟩ : ByteArray), 130)) = some (r1, r2, r3) := by rw [if_pos rfl] at H; exact H
        clear H; have H := H1; clear H1; simp only [Option.some.injEq, Prod.mk.injEq] at H; obtain ⟨rfl, rfl, rfl⟩ := H; have hcz20_0 : wc.cell? ⟨gb251, 0, none⟩ = some (.string (⟨#[]⟩ : ByteArray)) := (blk_cell BK251.out 0).trans rfl; have hcz20_1 : wc.cell? ⟨gb251, 1, none⟩ = some (.string (⟨#[]⟩ : ByteArray)) := (blk_cell BK251.out 1).trans rfl; have hfz20_0 := blk_frozen BK251.out 0; have hfz20_1 := blk_frozen BK251.out 1
        go_wp2
        refine bodyPost_ret (results_ct rfl _ _ gb251 51 #[.string (⟨#[]⟩ : ByteArray), .string (⟨#[]⟩ : ByteArray)] (0, 0) _ rfl (by (with_reducible repeat (first | refine blk_drewN ?_ _ | refine blk_drew ?_ | refine blk_alloc ?_ _)); refine blk_put (cs := #[.string (⟨#[]⟩ : ByteArray), .string (⟨#[]⟩ : ByteArray)]) ?_ 1 _ rfl; (with_reducible repeat (first | refine blk_drewN ?_ _ | refine blk_drew ?_ | refine blk_alloc ?_ _)); exact blk_put (cs := #[.string (⟨#[]⟩ : ByteArray), .string (⟨#[]⟩ : ByteArray)]) bk 0 _ rfl) Tryz.underlying51 rfl (by kernel_rfl)) rfl ?_; exact ⟨ew, bwS⟩
       ·replace c19 := Bool.eq_false_iff.mpr c19; subst c19; have H1 : ((glyph_Fold.f t263).bind fun t268 => ((addr_why.f kj12 t252 t268).bind fun t270 => (if t270 = 0 then (some (t252, t268, 0)) else (some ((⟨#[]⟩ : ByteArray), (⟨#[]⟩ : ByteArray), t270))))) = some (r1, r2, r3) := by rw [if_neg (show ¬ (false = true) by decide)] at H; exact H
        clear H; have H := H1; clear H1; replace H := Option.bind_eq_some_iff.mp H; obtain ⟨t268, A210, H⟩ := H; replace H : ((addr_why.f kj12 t252 t268).bind fun t270 => (if t270 = 0 then (some (t252, t268, 0)) else (some ((⟨#[]⟩ : ByteArray), (⟨#[]⟩ : ByteArray), t270)))) = some (r1, r2, r3) := H; have A21 := Aside0.mk A210; clear A210; replace H := Option.bind_eq_some_iff.mp H; obtain ⟨t270, A220, H⟩ := H; replace H : (if t270 = 0 then (some (t252, t268, 0)) else (some ((⟨#[]⟩ : ByteArray), (⟨#[]⟩ : ByteArray), t270))) = some (r1, r2, r3) := H; have A22 := Aside0.mk A220; clear A220
        by_cases c23 : t270 = 0
        ·rw [if_pos c23] at H; have c23b0 : (t270 == 0) = true := beq_iff_eq.mpr c23; have c23b1 : (t270 != 0) = false := bne_eq_false_iff_eq.mpr c23; clear c23; simp only [Option.some.injEq, Prod.mk.injEq] at H; obtain ⟨rfl, rfl, rfl⟩ := H
         go_wp2_with (first | ((with_reducible refine gate_callee (f := 55) rfl ?_); refine goesL_ (some 40) rfl rfl Tryz.func55 (by kernel_rfl) rfl #[.string t263] rfl am ?_; (with_reducible refine (glyph_Fold.calls t263 t268 _ A21.out).mono ?_); rintro e w24 ⟨rfl, hb⟩; refine ⟨_, rfl, ?_⟩; have n0_ := Aside0.mk (blk_below (g := gb251) (o := .cells #[.string (⟨#[]⟩ : ByteArray), .string (⟨#[]⟩ : ByteArray)] 51 (0, 0)) bk hb); have n1_ := Aside0.mk (below_step bwS hb); clear BK251; clear HB; have BK251 := n0_; have HB := n1_; clear n0_ n1_; (try clear hb); (try clear hb2); (try clear hk); (try clear hi)) | ((with_reducible refine gate_dst (N := 7) rfl ?_); (try (refine gate_guard (by rfl) ?_; dsimp only)); refine box_event ?hg (N := 7) ?hd (cs := #[.string (⟨#[]⟩ : ByteArray), .string (⟨#[]⟩ : ByteArray)]) (t := 51) ?hr ?_; (case hd => rfl); (case hg => rfl); (case hr => first | (go_simp; done) | (go_simp; rfl)); intro gb269 hg w25 hbox hb; have n0_ := Aside0.mk (blk_below (g := gb251) (o := .cells #[.string (⟨#[]⟩ : ByteArray), .string (⟨#[]⟩ : ByteArray)] 51 (0, 0)) bk hb); have n1_ := Aside0.mk (below_step bwS hb); have n2_ := Aside0.mk (hbox); have n3_ := Aside0.mk ((by rw [hg]; exact (below_size bwS) : w.heap.size ≤ gb269)); have n4_ := Aside0.mk ((by rw [hg]; exact (below_size bwS) : w.heap.size ≤ gb269)); have n5_ := Aside0.mk ((by rw [hg]; exact Nat.ne_of_lt (blk_lt (g := gb251) (o := .cells #[.string (⟨#[]⟩ : ByteArray), .string (⟨#[]⟩ : ByteArray)] 51 (0, 0)) bk) : gb251 ≠ gb269)); have n6_ := Aside0.mk ((by rw [hg]; exact Nat.ne_of_gt (blk_lt (g := gb251) (o := .cells #[.string (⟨#[]⟩ : ByteArray), .string (⟨#[]⟩ : ByteArray)] 51 (0, 0)) bk) : gb269 ≠ gb251)); clear BK251; clear HB; have BK251 := n0_; have HB := n1_; have BK269 := n2_; have GW269 := n3_; have GE269 := n4_; have NB251_269 := n5_; have NB269_251 := n6_; clear n0_ n1_ n2_ n3_ n4_ n5_ n6_; clear hb hbox hg; have hnb26 := NB269_251.out; have hnc26 := NB251_269.out; have hcz27_0 : w25.cell? ⟨gb269, 0, none⟩ = some (.string (⟨#[]⟩ : ByteArray)) := (blk_cell BK269.out 0).trans rfl; have hcz27_1 : w25.cell? ⟨gb269, 1, none⟩ = some (.string (⟨#[]⟩ : ByteArray)) := (blk_cell BK269.out 1).trans rfl; have hfz27_0 := blk_frozen BK269.out 0; have hfz27_1 := blk_frozen BK269.out 1) | ((with_reducible refine gate_callee (f := 155) rfl ?_); refine goesL_ (some 43) rfl rfl Tryz.func155 (by kernel_rfl) rfl #[.agg #[.string t252, .string t268]] rfl am ?_; (with_reducible refine (addr_why.calls kj12 t252 t268 t270 _ A22.out).mono ?_); rintro e w28 ⟨rfl, hb⟩; refine ⟨_, rfl, ?_⟩; have n0_ := Aside0.mk (blk_below (g := gb251) (o := .cells #[.string (⟨#[]⟩ : ByteArray), .string (⟨#[]⟩ : ByteArray)] 51 (0, 0)) (by (with_reducible repeat (first | refine blk_drewN ?_ _ | refine blk_drew ?_ | refine blk_alloc ?_ _)); refine blk_far ?_ NB251_269.out _; (with_reducible repeat (first | refine blk_drewN ?_ _ | refine blk_drew ?_ | refine blk_alloc ?_ _)); refine blk_far ?_ NB251_269.out _; (with_reducible repeat (first | refine blk_drewN ?_ _ | refine blk_drew ?_ | refine blk_alloc ?_ _)); exact BK251.out) hb); have n1_ := Aside0.mk (blk_below (g := gb269) (o := .cells #[.string t252, .string t268] 51 (0, 0)) (by (with_reducible repeat (first | refine blk_drewN ?_ _ | refine blk_drew ?_ | refine blk_alloc ?_ _)); refine blk_put (cs := #[.string t252, .string (⟨#[]⟩ : ByteArray)]) ?_ 1 _ rfl; (with_reducible repeat (first | refine blk_drewN ?_ _ | refine blk_drew ?_ | refine blk_alloc ?_ _)); exact blk_put (cs := #[.string (⟨#[]⟩ : ByteArray), .string (⟨#[]⟩ : ByteArray)]) bk 0 _ rfl) hb); have n2_ := Aside0.mk (below_step bwS hb); clear BK251; clear BK269; clear HB; have BK251 := n0_; have BK269 := n1_; have HB := n2_; clear n0_ n1_ n2_; (try clear hb); (try clear hb2); (try clear hk); (try clear hi); have hcz29_0 : w28.cell? ⟨gb269, 0, none⟩ = some (.string t252) := (blk_cell BK269.out 0).trans rfl; have hcz29_1 : w28.cell? ⟨gb269, 1, none⟩ = some (.string t268) := (blk_cell BK269.out 1).trans rfl; have hfz29_0 := blk_frozen BK269.out 0; have hfz29_1 := blk_frozen BK269.out 1; have hcz30_0 : w28.cell? ⟨gb251, 0, none⟩ = some (.string (⟨#[]⟩ : ByteArray)) := (blk_cell BK251.out 0).trans rfl; have hcz30_1 : w28.cell? ⟨gb251, 1, none⟩ = some (.string (⟨#[]⟩ : ByteArray)) := (blk_cell BK251.out 1).trans rfl; have hfz30_0 := blk_frozen BK251.out 0; have hfz30_1 := blk_frozen BK251.out 1))
         refine bodyPost_ret (results_ct rfl _ _ gb251 51 #[.string t252, .string t268] (0, 0) _ rfl (by (with_reducible repeat (first | refine blk_drewN ?_ _ | refine blk_drew ?_ | refine blk_alloc ?_ _)); refine blk_put (cs := #[.string t252, .string (⟨#[]⟩ : ByteArray)]) ?_ 1 _ rfl; (with_reducible repeat (first | refine blk_drewN ?_ _ | refine blk_drew ?_ | refine blk_alloc ?_ _)); exact blk_put (cs := #[.string (⟨#[]⟩ : ByteArray), .string (⟨#[]⟩ : ByteArray)]) bk 0 _ rfl) Tryz.underlying51 rfl (by kernel_rfl)) rfl ?_; exact ⟨ew, bwS⟩
        ·rw [if_neg c23] at H; have c23b0 : (t270 == 0) = false := beq_eq_false_iff_ne.mpr c23; have c23b1 : (t270 != 0) = true := bne_iff_ne.mpr c23; simp only [Option.some.injEq, Prod.mk.injEq] at H; obtain ⟨rfl, rfl, rfl⟩ := H
         go_wp2_with (first | ((with_reducible refine gate_callee (f := 55) rfl ?_); refine goesL_ (some 40) rfl rfl Tryz.func55 (by kernel_rfl) rfl #[.string t263] rfl am ?_; (with_reducible refine (glyph_Fold.calls t263 t268 _ A21.out).mono ?_); rintro e w31 ⟨rfl, hb⟩; refine ⟨_, rfl, ?_⟩; have n0_ := Aside0.mk (blk_below (g := gb251) (o := .cells #[.string (⟨#[]⟩ : ByteArray), .string (⟨#[]⟩ : ByteArray)] 51 (0, 0)) bk hb); have n1_ := Aside0.mk (below_step bwS hb); clear BK251; clear HB; have BK251 := n0_; have HB := n1_; clear n0_ n1_; (try clear hb); (try clear hb2); (try clear hk); (try clear hi)) | ((with_reducible refine gate_dst (N := 7) rfl ?_); (try (refine gate_guard (by rfl) ?_; dsimp only)); refine box_event ?hg (N := 7) ?hd (cs := #[.string (⟨#[]⟩ : ByteArray), .string (⟨#[]⟩ : ByteArray)]) (t := 51) ?hr ?_; (case hd => rfl); (case hg => rfl); (case hr => first | (go_simp; done) | (go_simp; rfl)); intro gb269 hg w32 hbox hb; have n0_ := Aside0.mk (blk_below (g := gb251) (o := .cells #[.string (⟨#[]⟩ : ByteArray), .string (⟨#[]⟩ : ByteArray)] 51 (0, 0)) bk hb); have n1_ := Aside0.mk (below_step bwS hb); have n2_ := Aside0.mk (hbox); have n3_ := Aside0.mk ((by rw [hg]; exact (below_size bwS) : w.heap.size ≤ gb269)); have n4_ := Aside0.mk ((by rw [hg]; exact (below_size bwS) : w.heap.size ≤ gb269)); have n5_ := Aside0.mk ((by rw [hg]; exact Nat.ne_of_lt (blk_lt (g := gb251) (o := .cells #[.string (⟨#[]⟩ : ByteArray), .string (⟨#[]⟩ : ByteArray)] 51 (0, 0)) bk) : gb251 ≠ gb269)); have n6_ := Aside0.mk ((by rw [hg]; exact Nat.ne_of_gt (blk_lt (g := gb251) (o := .cells #[.string (⟨#[]⟩ : ByteArray), .string (⟨#[]⟩ : ByteArray)] 51 (0, 0)) bk) : gb269 ≠ gb251)); clear BK251; clear HB; have BK251 := n0_; have HB := n1_; have BK269 := n2_; have GW269 := n3_; have GE269 := n4_; have NB251_269 := n5_; have NB269_251 := n6_; clear n0_ n1_ n2_ n3_ n4_ n5_ n6_; clear hb hbox hg; have hnb33 := NB269_251.out; have hnc33 := NB251_269.out; have hcz34_0 : w32.cell? ⟨gb269, 0, none⟩ = some (.string (⟨#[]⟩ : ByteArray)) := (blk_cell BK269.out 0).trans rfl; have hcz34_1 : w32.cell? ⟨gb269, 1, none⟩ = some (.string (⟨#[]⟩ : ByteArray)) := (blk_cell BK269.out 1).trans rfl; have hfz34_0 := blk_frozen BK269.out 0; have hfz34_1 := blk_frozen BK269.out 1) | ((with_reducible refine gate_callee (f := 155) rfl ?_); refine goesL_ (some 43) rfl rfl Tryz.func155 (by kernel_rfl) rfl #[.agg #[.string t252, .string t268]] rfl am ?_; (with_reducible refine (addr_why.calls kj12 t252 t268 t270 _ A22.out).mono ?_); rintro e w35 ⟨rfl, hb⟩; refine ⟨_, rfl, ?_⟩; have n0_ := Aside0.mk (blk_below (g := gb251) (o := .cells #[.string (⟨#[]⟩ : ByteArray), .string (⟨#[]⟩ : ByteArray)] 51 (0, 0)) (by (with_reducible repeat (first | refine blk_drewN ?_ _ | refine blk_drew ?_ | refine blk_alloc ?_ _)); refine blk_far ?_ NB251_269.out _; (with_reducible repeat (first | refine blk_drewN ?_ _ | refine blk_drew ?_ | refine blk_alloc ?_ _)); refine blk_far ?_ NB251_269.out _; (with_reducible repeat (first | refine blk_drewN ?_ _ | refine blk_drew ?_ | refine blk_alloc ?_ _)); exact BK251.out) hb); have n1_ := Aside0.mk (blk_below (g := gb269) (o := .cells #[.string t252, .string t268] 51 (0, 0)) (by (with_reducible repeat (first | refine blk_drewN ?_ _ | refine blk_drew ?_ | refine blk_alloc ?_ _)); refine blk_put (cs := #[.string t252, .string (⟨#[]⟩ : ByteArray)]) ?_ 1 _ rfl; (with_reducible repeat (first | refine blk_drewN ?_ _ | refine blk_drew ?_ | refine blk_alloc ?_ _)); exact blk_put (cs := #[.string (⟨#[]⟩ : ByteArray), .string (⟨#[]⟩ : ByteArray)]) bk 0 _ rfl) hb); have n2_ := Aside0.mk (below_step bwS hb); clear BK251; clear BK269; clear HB; have BK251 := n0_; have BK269 := n1_; have HB := n2_; clear n0_ n1_ n2_; (try clear hb); (try clear hb2); (try clear hk); (try clear hi); have hcz36_0 : w35.cell? ⟨gb251, 0, none⟩ = some (.string (⟨#[]⟩ : ByteArray)) := (blk_cell BK251.out 0).trans rfl; have hcz36_1 : w35.cell? ⟨gb251, 1, none⟩ = some (.string (⟨#[]⟩ : ByteArray)) := (blk_cell BK251.out 1).trans rfl; have hfz36_0 := blk_frozen BK251.out 0; have hfz36_1 := blk_frozen BK251.out 1))
         refine bodyPost_ret (results_ct rfl _ _ gb251 51 #[.string (⟨#[]⟩ : ByteArray), .string (⟨#[]⟩ : ByteArray)] (0, 0) _ rfl (by (with_reducible repeat (first | refine blk_drewN ?_ _ | refine blk_drew ?_ | refine blk_alloc ?_ _)); refine blk_put (cs := #[.string (⟨#[]⟩ : ByteArray), .string (⟨#[]⟩ : ByteArray)]) ?_ 1 _ rfl; (with_reducible repeat (first | refine blk_drewN ?_ _ | refine blk_drew ?_ | refine blk_alloc ?_ _)); exact blk_put (cs := #[.string (⟨#[]⟩ : ByteArray), .string (⟨#[]⟩ : ByteArray)]) bk 0 _ rfl) Tryz.underlying51 rfl (by kernel_rfl)) rfl ?_; exact ⟨ew, bwS⟩
    ·rw [if_neg c11] at H; exact absurd H (by simp)

end Go.Proofs.YtbjbpgmjijeppaaGreatDoor.Fn
namespace Go.Proofs.YtbjbpgmjijeppaaGreatDoor.Fn
open Go.RowKit Go.Proofs.YtbjbpgmjijeppaaGreatDoorW.PrintWords Go.Proofs.YtbjbpgmjijeppaaGreatDoorW.PrintLast Go.Proofs.YtbjbpgmjijeppaaGreatDoorW.PrintMore
attribute [local go_sem] max2_int min2_int max_two min_two max_three min_three max_four min_four
set_option linter.unusedVariables false
set_option linter.unusedSimpArgs false

mutual
def bulletinref13_Of.l0 : Nat → List (S149) → Int → Int → Option (ByteArray × ByteArray × Int)
 | 0, _, _, _ => none
 | k + 1, x0, x4, x5 => if x5 < (x0.length : Int) then (if 0 ≤ x5 then (if ((rd_T149 x0 x5).f0) = 3 then (if ((rd_T149 x0 x5).f1).toList = ([64] : List UInt8) then (if x4 < 0 then (bulletinref13_Of.l0 k x0 x5 (wrap64 (x5 + 1))) else (bulletinref13_Of.l0 k x0 x4 (wrap64 (x5 + 1)))) else (bulletinref13_Of.l0 k x0 x4 (wrap64 (x5 + 1)))) else (bulletinref13_Of.l0 k x0 x4 (wrap64 (x5 + 1)))) else (none)) else (if x4 < 0 then (some ((⟨#[]⟩ : ByteArray), (⟨#[]⟩ : ByteArray), 130)) else (bulletinref13_Of.l1 k x0 x4 0 (⟨#[]⟩ : ByteArray) (⟨#[]⟩ : ByteArray)))
def bulletinref13_Of.l1 : Nat → List (S149) → Int → Int → ByteArray → ByteArray → Option (ByteArray × ByteArray × Int)
 | 0, _, _, _, _, _ => none
 | k + 1, x0, x4, x7, x532000, x532001 => if x7 < (x0.length : Int) then (if 0 ≤ x7 then (if x7 > x4 then (bulletinref13_Of.j2 k x0 x4 x7 (wrap64 ((wrap64 (x7 - x4)) - 1)) x532000 x532001 ((rd_T149 x0 x7).f0) ((rd_T149 x0 x7).f1)) else (bulletinref13_Of.j2 k x0 x4 x7 x7 x532000 x532001 ((rd_T149 x0 x7).f0) ((rd_T149 x0 x7).f1))) else (none)) else (if (Int.tmod x4 2) = 0 then (bulletinref13_Of.j5 k true x532000 x532001) else (bulletinref13_Of.j5 k ((Int.tmod (wrap64 ((wrap64 ((x0.length : Int) - x4)) - 1)) 2) == 0) x532000 x532001))
def bulletinref13_Of.j2 : Nat → List (S149) → Int → Int → Int → ByteArray → ByteArray → Int → ByteArray → Option (ByteArray × ByteArray × Int)
 | 0, _, _, _, _, _, _, _, _ => none
 | k + 1, x0, x4, x7, x9, x532000, x532001, x534000, x534001 => if x7 = x4 then (bulletinref13_Of.j3 k x0 x4 x7 x9 false x532000 x532001 x534000 x534001) else (if (Int.tmod x9 2) = 1 then (if x534000 = 3 then (bulletinref13_Of.j3 k x0 x4 x7 x9 (x534001.toList != ([46] : List UInt8)) x532000 x532001 x534000 x534001) else (bulletinref13_Of.j3 k x0 x4 x7 x9 true x532000 x532001 x534000 x534001)) else (bulletinref13_Of.j3 k x0 x4 x7 x9 false x532000 x532001 x534000 x534001))
def bulletinref13_Of.j3 : Nat → List (S149) → Int → Int → Int → Bool → ByteArray → ByteArray → Int → ByteArray → Option (ByteArray × ByteArray × Int)
 | 0, _, _, _, _, _, _, _, _, _ => none
 | k + 1, x0, x4, x7, x9, x75, x532000, x532001, x534000, x534001 => if x75 = true then (some ((⟨#[]⟩ : ByteArray), (⟨#[]⟩ : ByteArray), 130)) else (if x7 = x4 then (bulletinref13_Of.j4 k x0 x4 x7 false x532000 x532001 x534000 x534001) else (if (Int.tmod x9 2) = 0 then (if x534000 = 3 then (bulletinref13_Of.j4 k x0 x4 x7 true x532000 x532001 x534000 x534001) else (if x7 > x4 then (bulletinref13_Of.j4 k x0 x4 x7 (x534000 != 1) x532000 x532001 x534000 x534001) else (bulletinref13_Of.j4 k x0 x4 x7 false x532000 x532001 x534000 x534001))) else (bulletinref13_Of.j4 k x0 x4 x7 false x532000 x532001 x534000 x534001)))
def bulletinref13_Of.j4 : Nat → List (S149) → Int → Int → Bool → ByteArray → ByteArray → Int → ByteArray → Option (ByteArray × ByteArray × Int)
 | 0, _, _, _, _, _, _, _, _ => none
 | k + 1, x0, x4, x7, x99, x532000, x532001, x534000, x534001 => if x99 = true then (some ((⟨#[]⟩ : ByteArray), (⟨#[]⟩ : ByteArray), 130)) else (if x7 < x4 then (if x532000.size + x534001.size ≤ 9223372036854775807 then (if x7 > x4 then (if x532001.size + x534001.size ≤ 9223372036854775807 then (bulletinref13_Of.l1 k x0 x4 (wrap64 (x7 + 1)) (x532000 ++ x534001) (x532001 ++ x534001)) else (none)) else (bulletinref13_Of.l1 k x0 x4 (wrap64 (x7 + 1)) (x532000 ++ x534001) x532001)) else (none)) else (if x7 > x4 then (if x532001.size + x534001.size ≤ 9223372036854775807 then (bulletinref13_Of.l1 k x0 x4 (wrap64 (x7 + 1)) x532000 (x532001 ++ x534001)) else (none)) else (bulletinref13_Of.l1 k x0 x4 (wrap64 (x7 + 1)) x532000 x532001)))
def bulletinref13_Of.j5 : Nat → Bool → ByteArray → ByteArray → Option (ByteArray × ByteArray × Int)
 | 0, _, _, _ => none
 | k + 1, x130, x532000, x532001 => if x130 = true then (some ((⟨#[]⟩ : ByteArray), (⟨#[]⟩ : ByteArray), 130)) else ((bulletinref06_Fold.f k x532001).bind fun t534 => ((bulletinref13_Why.f k x532000 t534).bind fun t535 => (if t535 = 0 then (some (x532000, t534, 0)) else (some ((⟨#[]⟩ : ByteArray), (⟨#[]⟩ : ByteArray), t535)))))
end
end Go.Proofs.YtbjbpgmjijeppaaGreatDoor.Fn
