/- A part of the proof of this sentence: What any member is, gets and becomes by a bounce and when it is well, a new one, and the words of modes, are as the document has them -/
import Derived.Test.YtnnlhpmkfijppaaGreatDoorCRosterTells3
namespace Go.Proofs.YtnnlhpmkfijppaaGreatDoor.Fn
open Go.RowKit Go.Proofs.YtnnlhpmkfijppaaGreatDoorW.PrintWords Go.Proofs.YtnnlhpmkfijppaaGreatDoorW.PrintLast Go.Proofs.YtnnlhpmkfijppaaGreatDoorW.PrintMore
attribute [local go_sem] max2_int min2_int max_two min_two max_three min_three max_four min_four
set_option linter.unusedVariables false
set_option linter.unusedSimpArgs false

mutual
def bulletinref13_label.l0 : Nat → ByteArray → Int → Option (Bool)
 | 0, _, _ => none
 | k + 1, x0, x3 => if x3 < (x0.size : Int) then (if 0 ≤ x3 then (if (bt x0 x3) ≥ 65 then (bulletinref13_label.j1 k x0 x3 (bt x0 x3) (decide ((bt x0 x3) ≤ 90))) else (bulletinref13_label.j1 k x0 x3 (bt x0 x3) false)) else (none)) else (some (x0.toList != ([] : List UInt8)))
def bulletinref13_label.j1 : Nat → ByteArray → Int → Int → Bool → Option (Bool)
 | 0, _, _, _, _ => none
 | k + 1, x0, x3, x4, x20 => if x20 = true then (if x3 = 0 then (if ((x4 + 32) % 256) ≥ 97 then (if ((x4 + 32) % 256) ≤ 122 then (bulletinref13_label.l0 k x0 (wrap64 (x3 + 1))) else (if ((x4 + 32) % 256) ≥ 48 then (if ((x4 + 32) % 256) ≤ 57 then (bulletinref13_label.l0 k x0 (wrap64 (x3 + 1))) else (if ((x4 + 32) % 256) = 45 then (some false) else (some false))) else (if ((x4 + 32) % 256) = 45 then (some false) else (some false)))) else (if ((x4 + 32) % 256) ≥ 48 then (if ((x4 + 32) % 256) ≤ 57 then (bulletinref13_label.l0 k x0 (wrap64 (x3 + 1))) else (if ((x4 + 32) % 256) = 45 then (some false) else (some false))) else (if ((x4 + 32) % 256) = 45 then (some false) else (some false)))) else (if ((x4 + 32) % 256) ≥ 97 then (if ((x4 + 32) % 256) ≤ 122 then (bulletinref13_label.l0 k x0 (wrap64 (x3 + 1))) else (if ((x4 + 32) % 256) ≥ 48 then (if ((x4 + 32) % 256) ≤ 57 then (bulletinref13_label.l0 k x0 (wrap64 (x3 + 1))) else (if ((x4 + 32) % 256) = 45 then (if x3 = (wrap64 ((x0.size : Int) - 1)) then (some false) else (bulletinref13_label.l0 k x0 (wrap64 (x3 + 1)))) else (some false))) else (if ((x4 + 32) % 256) = 45 then (if x3 = (wrap64 ((x0.size : Int) - 1)) then (some false) else (bulletinref13_label.l0 k x0 (wrap64 (x3 + 1)))) else (some false)))) else (if ((x4 + 32) % 256) ≥ 48 then (if ((x4 + 32) % 256) ≤ 57 then (bulletinref13_label.l0 k x0 (wrap64 (x3 + 1))) else (if ((x4 + 32) % 256) = 45 then (if x3 = (wrap64 ((x0.size : Int) - 1)) then (some false) else (bulletinref13_label.l0 k x0 (wrap64 (x3 + 1)))) else (some false))) else (if ((x4 + 32) % 256) = 45 then (if x3 = (wrap64 ((x0.size : Int) - 1)) then (some false) else (bulletinref13_label.l0 k x0 (wrap64 (x3 + 1)))) else (some false))))) else (if x3 = 0 then (if x4 ≥ 97 then (if x4 ≤ 122 then (bulletinref13_label.l0 k x0 (wrap64 (x3 + 1))) else (if x4 ≥ 48 then (if x4 ≤ 57 then (bulletinref13_label.l0 k x0 (wrap64 (x3 + 1))) else (if x4 = 45 then (some false) else (some false))) else (if x4 = 45 then (some false) else (some false)))) else (if x4 ≥ 48 then (if x4 ≤ 57 then (bulletinref13_label.l0 k x0 (wrap64 (x3 + 1))) else (if x4 = 45 then (some false) else (some false))) else (if x4 = 45 then (some false) else (some false)))) else (if x4 ≥ 97 then (if x4 ≤ 122 then (bulletinref13_label.l0 k x0 (wrap64 (x3 + 1))) else (if x4 ≥ 48 then (if x4 ≤ 57 then (bulletinref13_label.l0 k x0 (wrap64 (x3 + 1))) else (if x4 = 45 then (if x3 = (wrap64 ((x0.size : Int) - 1)) then (some false) else (bulletinref13_label.l0 k x0 (wrap64 (x3 + 1)))) else (some false))) else (if x4 = 45 then (if x3 = (wrap64 ((x0.size : Int) - 1)) then (some false) else (bulletinref13_label.l0 k x0 (wrap64 (x3 + 1)))) else (some false)))) else (if x4 ≥ 48 then (if x4 ≤ 57 then (bulletinref13_label.l0 k x0 (wrap64 (x3 + 1))) else (if x4 = 45 then (if x3 = (wrap64 ((x0.size : Int) - 1)) then (some false) else (bulletinref13_label.l0 k x0 (wrap64 (x3 + 1)))) else (some false))) else (if x4 = 45 then (if x3 = (wrap64 ((x0.size : Int) - 1)) then (some false) else (bulletinref13_label.l0 k x0 (wrap64 (x3 + 1)))) else (some false)))))
end
def bulletinref13_label.f (k : Nat) (a0 : ByteArray) : Option (Bool) := bulletinref13_label.l0 k a0 0
set_option maxHeartbeats 8000000 in
set_option maxRecDepth 100000 in
theorem bulletinref13_label.calls (k : Nat) (a0 : ByteArray) (r : Bool) (w : World) (h : bulletinref13_label.f k a0 = some r) :
  Calls Tryz.prog 97 #[.string a0] w fun e w' => e = .returned (.bool r) ∧ Drawn0 w w' := by
 have H : (bulletinref13_label.l0 k a0 0) = some r := h; clear h; have H' := Aside0.mk H; clear H
 go_enter Tryz.func97, Tryz.ntmps97
 go_wp2
 go_loopg [3] k (fun kq v3 w' => ∃ (x3_1 : Int), v3 = .int .i64 x3_1 ∧ Aside0 (bulletinref13_label.l0 kq a0 x3_1 = some r) ∧ Aside0 (kq ≤ k) ∧ Drawn0 w w')
 case atStart => exact ⟨(0), cl, H', ⟨Nat.le_refl _⟩, d0⟩
 case round =>
  clear H'; obtain ⟨x3_1, rfl, HA, HK1, ⟨m1, rfl⟩⟩ := hrel; cases gk with
  | zero => exact absurd HA.out (by simp [bulletinref13_label.l0])
  | succ k1 =>
   have H := HA.out; clear HA; simp only [bulletinref13_label.l0] at H
   by_cases c2 : x3_1 < (a0.size : Int)
   ·rw [if_pos c2] at H; have c2b0 := decide_eq_true c2; clear c2
    by_cases c3 : 0 ≤ x3_1
    ·rw [if_pos c3] at H; have c3b0 := decide_eq_true c3; clear c3; have HC5 := Aside0.mk H; clear H; have p4 : 0 ≤ (x3_1 : Int) := od; have q4 : x3_1 < (a0.size : Int) := od; have hx4 := bt_at a0 x3_1; replace p4 := eq_true p4; replace q4 := eq_true q4
     go_upto_region 5 with (fail)
     go_cut [20] (fun v20 wc => ∃ (kq : Nat) (x20_4 : Bool), v20 = .bool x20_4 ∧ Aside0 (bulletinref13_label.j1 kq a0 x3_1 (bt a0 x3_1) x20_4 = some r) ∧ Aside0 (kq ≤ k1) ∧ Drawn0 w wc)
     case first =>
      have H := HC5.out; clear HC5
      by_cases c6 : (bt a0 x3_1) ≥ 65
      ·rw [if_pos c6] at H; have c6b0 : decide (65 ≤ (bt a0 x3_1)) = true := decide_eq_true c6; clear c6
       (first | rw [c6b0] | (simp only [i64_w, i32_w]; rw [c6b0]) | skip)
       have H' := Aside0.mk H; clear H
       go_wp2
       go_meet
       case rel => exact ⟨_, (decide ((bt a0 x3_1) ≤ 90)), cl, H', ⟨by have := HK1.out; first | omega | exact Nat.le_refl _⟩, d0⟩
      rw [if_neg c6] at H; have c6b0 : decide (65 ≤ (bt a0 x3_1)) = false := decide_eq_false c6; clear c6
      (first | rw [c6b0] | (simp only [i64_w, i32_w]; rw [c6b0]) | skip)
      have H' := Aside0.mk H; clear H
      go_wp2
      go_meet
      case rel => exact ⟨_, (false), cl, H', ⟨by have := HK1.out; first | omega | exact Nat.le_refl _⟩, d0⟩
     case rest =>
      clear HC5
      try clear c2
      try clear c2b0
      try clear p2
      try clear c3
      try clear c3b0
      try clear p4
      try clear q4
      try clear hx4
      try clear c6
      try clear c6b0
      try clear p4
      try clear q4
      obtain ⟨kq, x20_4, rfl, HA, HJ4, ⟨mc4, rfl⟩⟩ := hcut; cases kq with
      | zero => exact absurd HA.out (by simp [bulletinref13_label.j1])
      | succ kj4 =>
       have H := HA.out; clear HA; simp only [bulletinref13_label.j1] at H
       by_cases c7 : x20_4 = true
       ·subst c7; rw [if_pos rfl] at H
        by_cases c8 : x3_1 = 0
        ·rw [if_pos c8] at H; have c8b0 := beq_iff_eq.mpr c8; have c8b1 := bne_eq_false_iff_eq.mpr c8; clear c8
         by_cases c9 : (((bt a0 x3_1) + 32) % 256) ≥ 97
         ·rw [if_pos c9] at H; have c9b0 : decide (97 ≤ (((bt a0 x3_1) + 32) % 256)) = true := decide_eq_true c9; clear c9
          by_cases c10 : (((bt a0 x3_1) + 32) % 256) ≤ 122
          ·rw [if_pos c10] at H; have c10b0 := decide_eq_true c10; clear c10; have H' := Aside0.mk H; clear H
           go_wp2
           go_roundg kj4
           case measure => have := HK1.out; have := HJ4.out; omega
           case rel => exact ⟨(wrap64 (x3_1 + 1)), cl, H', ⟨by have := HK1.out; have := HJ4.out; omega⟩, d0⟩
          rw [if_neg c10] at H; have c10b0 := decide_eq_false c10; clear c10
          by_cases c11 : (((bt a0 x3_1) + 32) % 256) ≥ 48
          ·rw [if_pos c11] at H; have c11b0 : decide (48 ≤ (((bt a0 x3_1) + 32) % 256)) = true := decide_eq_true c11; clear c11
           by_cases c12 : (((bt a0 x3_1) + 32) % 256) ≤ 57
           ·rw [if_pos c12] at H; have c12b0 := decide_eq_true c12; clear c12; have H' := Aside0.mk H; clear H
            go_wp2
            go_roundg kj4
            case measure => have := HK1.out; have := HJ4.out; omega
            case rel => exact ⟨(wrap64 (x3_1 + 1)), cl, H', ⟨by have := HK1.out; have := HJ4.out; omega⟩, d0⟩
           rw [if_neg c12] at H; have c12b0 := decide_eq_false c12; clear c12
           by_cases c13 : (((bt a0 x3_1) + 32) % 256) = 45
           ·rw [if_pos c13] at H; have c13b0 := beq_iff_eq.mpr c13; have c13b1 := bne_eq_false_iff_eq.mpr c13; clear c13; obtain rfl := Option.some.inj H
            go_wp2
            go_ret
            exact ⟨cl, d0⟩
           rw [if_neg c13] at H; have c13b0 := beq_eq_false_iff_ne.mpr c13; have c13b1 := bne_iff_ne.mpr c13; obtain rfl := Option.some.inj H
           go_wp2
           go_ret
           exact ⟨cl, d0⟩
          rw [if_neg c11] at H; have c11b0 : decide (48 ≤ (((bt a0 x3_1) + 32) % 256)) = false := decide_eq_false c11; clear c11
          by_cases c14 : (((bt a0 x3_1) + 32) % 256) = 45
          ·rw [if_pos c14] at H; have c14b0 := beq_iff_eq.mpr c14; have c14b1 := bne_eq_false_iff_eq.mpr c14; clear c14; obtain rfl := Option.some.inj H
           go_wp2
           go_ret
           exact ⟨cl, d0⟩
          rw [if_neg c14] at H; have c14b0 := beq_eq_false_iff_ne.mpr c14; have c14b1 := bne_iff_ne.mpr c14; obtain rfl := Option.some.inj H
          go_wp2
          go_ret
          exact ⟨cl, d0⟩
         rw [if_neg c9] at H; have c9b0 : decide (97 ≤ (((bt a0 x3_1) + 32) % 256)) = false := decide_eq_false c9; clear c9
         by_cases c15 : (((bt a0 x3_1) + 32) % 256) ≥ 48
         ·rw [if_pos c15] at H; have c15b0 : decide (48 ≤ (((bt a0 x3_1) + 32) % 256)) = true := decide_eq_true c15; clear c15
          by_cases c16 : (((bt a0 x3_1) + 32) % 256) ≤ 57
          ·rw [if_pos c16] at H; have c16b0 := decide_eq_true c16; clear c16; have H' := Aside0.mk H; clear H
           go_wp2
           go_roundg kj4
           case measure => have := HK1.out; have := HJ4.out; omega
           case rel => exact ⟨(wrap64 (x3_1 + 1)), cl, H', ⟨by have := HK1.out; have := HJ4.out; omega⟩, d0⟩
          rw [if_neg c16] at H; have c16b0 := decide_eq_false c16; clear c16
          by_cases c17 : (((bt a0 x3_1) + 32) % 256) = 45
          ·rw [if_pos c17] at H; have c17b0 := beq_iff_eq.mpr c17; have c17b1 := bne_eq_false_iff_eq.mpr c17; clear c17; obtain rfl := Option.some.inj H
           go_wp2
           go_ret
           exact ⟨cl, d0⟩
          rw [if_neg c17] at H; have c17b0 := beq_eq_false_iff_ne.mpr c17; have c17b1 := bne_iff_ne.mpr c17; obtain rfl := Option.some.inj H
          go_wp2
          go_ret
          exact ⟨cl, d0⟩
         rw [if_neg c15] at H; have c15b0 : decide (48 ≤ (((bt a0 x3_1) + 32) % 256)) = false := decide_eq_false c15; clear c15
         by_cases c18 : (((bt a0 x3_1) + 32) % 256) = 45
         ·rw [if_pos c18] at H; have c18b0 := beq_iff_eq.mpr c18; have c18b1 := bne_eq_false_iff_eq.mpr c18; clear c18; obtain rfl := Option.some.inj H
          go_wp2
          go_ret
          exact ⟨cl, d0⟩
         rw [if_neg c18] at H; have c18b0 := beq_eq_false_iff_ne.mpr c18; have c18b1 := bne_iff_ne.mpr c18; obtain rfl := Option.some.inj H
         go_wp2
         go_ret
         exact ⟨cl, d0⟩
        rw [if_neg c8] at H; have c8b0 := beq_eq_false_iff_ne.mpr c8; have c8b1 := bne_iff_ne.mpr c8
        by_cases c19 : (((bt a0 x3_1) + 32) % 256) ≥ 97
        ·rw [if_pos c19] at H; have c19b0 : decide (97 ≤ (((bt a0 x3_1) + 32) % 256)) = true := decide_eq_true c19; clear c19
         by_cases c20 : (((bt a0 x3_1) + 32) % 256) ≤ 122
         ·rw [if_pos c20] at H; have c20b0 := decide_eq_true c20; clear c20; have H' := Aside0.mk H; clear H
          go_wp2
          go_roundg kj4
          case measure => have := HK1.out; have := HJ4.out; omega
          case rel => exact ⟨(wrap64 (x3_1 + 1)), cl, H', ⟨by have := HK1.out; have := HJ4.out; omega⟩, d0⟩
         rw [if_neg c20] at H; have c20b0 := decide_eq_false c20; clear c20
         by_cases c21 : (((bt a0 x3_1) + 32) % 256) ≥ 48
         ·rw [if_pos c21] at H; have c21b0 : decide (48 ≤ (((bt a0 x3_1) + 32) % 256)) = true := decide_eq_true c21; clear c21
          by_cases c22 : (((bt a0 x3_1) + 32) % 256) ≤ 57
          ·rw [if_pos c22] at H; have c22b0 := decide_eq_true c22; clear c22; have H' := Aside0.mk H; clear H
           go_wp2
           go_roundg kj4
           case measure => have := HK1.out; have := HJ4.out; omega
           case rel => exact ⟨(wrap64 (x3_1 + 1)), cl, H', ⟨by have := HK1.out; have := HJ4.out; omega⟩, d0⟩
          rw [if_neg c22] at H; have c22b0 := decide_eq_false c22; clear c22
          by_cases c23 : (((bt a0 x3_1) + 32) % 256) = 45
          ·rw [if_pos c23] at H; have c23b0 := beq_iff_eq.mpr c23; have c23b1 := bne_eq_false_iff_eq.mpr c23; clear c23
           by_cases c24 : x3_1 = (wrap64 ((a0.size : Int) - 1))
           ·rw [if_pos c24] at H; have c24b0 := beq_iff_eq.mpr c24; have c24b1 := bne_eq_false_iff_eq.mpr c24; clear c24; obtain rfl := Option.some.inj H
            go_wp2
            go_ret
            exact ⟨cl, d0⟩
           rw [if_neg c24] at H; have c24b0 := beq_eq_false_iff_ne.mpr c24; have c24b1 := bne_iff_ne.mpr c24; have H' := Aside0.mk H; clear H
           go_wp2
           go_roundg kj4
           case measure => have := HK1.out; have := HJ4.out; omega
           case rel => exact ⟨(wrap64 (x3_1 + 1)), cl, H', ⟨by have := HK1.out; have := HJ4.out; omega⟩, d0⟩
          rw [if_neg c23] at H; have c23b0 := beq_eq_false_iff_ne.mpr c23; have c23b1 := bne_iff_ne.mpr c23; obtain rfl := Option.some.inj H
          go_wp2
          go_ret
          exact ⟨cl, d0⟩
         rw [if_neg c21] at H; have c21b0 : decide (48 ≤ (((bt a0 x3_1) + 32) % 256)) = false := decide_eq_false c21; clear c21
         by_cases c25 : (((bt a0 x3_1) + 32) % 256) = 45
         ·rw [if_pos c25] at H; have c25b0 := beq_iff_eq.mpr c25; have c25b1 := bne_eq_false_iff_eq.mpr c25; clear c25
          by_cases c26 : x3_1 = (wrap64 ((a0.size : Int) - 1))
          ·rw [if_pos c26] at H; have c26b0 := beq_iff_eq.mpr c26; have c26b1 := bne_eq_false_iff_eq.mpr c26; clear c26; obtain rfl := Option.some.inj H
           go_wp2
           go_ret
           exact ⟨cl, d0⟩
          rw [if_neg c26] at H; have c26b0 := beq_eq_false_iff_ne.mpr c26; have c26b1 := bne_iff_ne.mpr c26; have H' := Aside0.mk H; clear H
          go_wp2
          go_roundg kj4
          case measure => have := HK1.out; have := HJ4.out; omega
          case rel => exact ⟨(wrap64 (x3_1 + 1)), cl, H', ⟨by have := HK1.out; have := HJ4.out; omega⟩, d0⟩
         rw [if_neg c25] at H; have c25b0 := beq_eq_false_iff_ne.mpr c25; have c25b1 := bne_iff_ne.mpr c25; obtain rfl := Option.some.inj H
         go_wp2
         go_ret
         exact ⟨cl, d0⟩
        rw [if_neg c19] at H; have c19b0 : decide (97 ≤ (((bt a0 x3_1) + 32) % 256)) = false := decide_eq_false c19; clear c19
        by_cases c27 : (((bt a0 x3_1) + 32) % 256) ≥ 48
        ·rw [if_pos c27] at H; have c27b0 : decide (48 ≤ (((bt a0 x3_1) + 32) % 256)) = true := decide_eq_true c27; clear c27
         by_cases c28 : (((bt a0 x3_1) + 32) % 256) ≤ 57
         ·rw [if_pos c28] at H; have c28b0 := decide_eq_true c28; clear c28; have H' := Aside0.mk H; clear H
          go_wp2
          go_roundg kj4
          case measure => have := HK1.out; have := HJ4.out; omega
          case rel => exact ⟨(wrap64 (x3_1 + 1)), cl, H', ⟨by have := HK1.out; have := HJ4.out; omega⟩, d0⟩
         rw [if_neg c28] at H; have c28b0 := decide_eq_false c28; clear c28
         by_cases c29 : (((bt a0 x3_1) + 32) % 256) = 45
         ·rw [if_pos c29] at H; have c29b0 := beq_iff_eq.mpr c29; have c29b1 := bne_eq_false_iff_eq.mpr c29; clear c29
          by_cases c30 : x3_1 = (wrap64 ((a0.size : Int) - 1))
          ·rw [if_pos c30] at H; have c30b0 := beq_iff_eq.mpr c30; have c30b1 := bne_eq_false_iff_eq.mpr c30; clear c30; obtain rfl := Option.some.inj H
           go_wp2
           go_ret
           exact ⟨cl, d0⟩
          rw [if_neg c30] at H; have c30b0 := beq_eq_false_iff_ne.mpr c30; have c30b1 := bne_iff_ne.mpr c30; have H' := Aside0.mk H; clear H
          go_wp2
          go_roundg kj4
          case measure => have := HK1.out; have := HJ4.out; omega
          case rel => exact ⟨(wrap64 (x3_1 + 1)), cl, H', ⟨by have := HK1.out; have := HJ4.out; omega⟩, d0⟩
         rw [if_neg c29] at H; have c29b0 := beq_eq_false_iff_ne.mpr c29; have c29b1 := bne_iff_ne.mpr c29; obtain rfl := Option.some.inj H
         go_wp2
         go_ret
         exact ⟨cl, d0⟩
        rw [if_neg c27] at H; have c27b0 : decide (48 ≤ (((bt a0 x3_1) + 32) % 256)) = false := decide_eq_false c27; clear c27
        by_cases c31 : (((bt a0 x3_1) + 32) % 256) = 45
        ·rw [if_pos c31] at H; have c31b0 := beq_iff_eq.mpr c31; have c31b1 := bne_eq_false_iff_eq.mpr c31; clear c31
         by_cases c32 : x3_1 = (wrap64 ((a0.size : Int) - 1))
         ·rw [if_pos c32] at H; have c32b0 := beq_iff_eq.mpr c32; have c32b1 := bne_eq_false_iff_eq.mpr c32; clear c32; obtain rfl := Option.some.inj H
          go_wp2
          go_ret
          exact ⟨cl, d0⟩
         rw [if_neg c32] at H; have c32b0 := beq_eq_false_iff_ne.mpr c32; have c32b1 := bne_iff_ne.mpr c32; have H' := Aside0.mk H; clear H
         go_wp2
         go_roundg kj4
         case measure => have := HK1.out; have := HJ4.out; omega
         case rel => exact ⟨(wrap64 (x3_1 + 1)), cl, H', ⟨by have := HK1.out; have := HJ4.out; omega⟩, d0⟩
        rw [if_neg c31] at H; have c31b0 := beq_eq_false_iff_ne.mpr c31; have c31b1 := bne_iff_ne.mpr c31; obtain rfl := Option.some.inj H
        go_wp2
        go_ret
        exact ⟨cl, d0⟩
       replace c7 := Bool.eq_false_iff.mpr c7; subst c7; rw [if_neg nft] at H
       by_cases c33 : x3_1 = 0
       ·rw [if_pos c33] at H; have c33b0 := beq_iff_eq.mpr c33; have c33b1 := bne_eq_false_iff_eq.mpr c33; clear c33
        by_cases c34 : (bt a0 x3_1) ≥ 97
        ·rw [if_pos c34] at H; have c34b0 : decide (97 ≤ (bt a0 x3_1)) = true := decide_eq_true c34; clear c34
         by_cases c35 : (bt a0 x3_1) ≤ 122
         ·rw [if_pos c35] at H; have c35b0 := decide_eq_true c35; clear c35; have H' := Aside0.mk H; clear H
          go_wp2
          go_roundg kj4
          case measure => have := HK1.out; have := HJ4.out; omega
          case rel => exact ⟨(wrap64 (x3_1 + 1)), cl, H', ⟨by have := HK1.out; have := HJ4.out; omega⟩, d0⟩
         rw [if_neg c35] at H; have c35b0 := decide_eq_false c35; clear c35
         by_cases c36 : (bt a0 x3_1) ≥ 48
         ·rw [if_pos c36] at H; have c36b0 : decide (48 ≤ (bt a0 x3_1)) = true := decide_eq_true c36; clear c36
          by_cases c37 : (bt a0 x3_1) ≤ 57
          ·rw [if_pos c37] at H; have c37b0 := decide_eq_true c37; clear c37; have H' := Aside0.mk H; clear H
           go_wp2
           go_roundg kj4
           case measure => have := HK1.out; have := HJ4.out; omega
           case rel => exact ⟨(wrap64 (x3_1 + 1)), cl, H', ⟨by have := HK1.out; have := HJ4.out; omega⟩, d0⟩
          rw [if_neg c37] at H; have c37b0 := decide_eq_false c37; clear c37
          by_cases c38 : (bt a0 x3_1) = 45
          ·rw [if_pos c38] at H; have c38b0 := beq_iff_eq.mpr c38; have c38b1 := bne_eq_false_iff_eq.mpr c38; clear c38; obtain rfl := Option.some.inj H
           go_wp2
           go_ret
           exact ⟨cl, d0⟩
          rw [if_neg c38] at H; have c38b0 := beq_eq_false_iff_ne.mpr c38; have c38b1 := bne_iff_ne.mpr c38; obtain rfl := Option.some.inj H
          go_wp2
          go_ret
          exact ⟨cl, d0⟩
         rw [if_neg c36] at H; have c36b0 : decide (48 ≤ (bt a0 x3_1)) = false := decide_eq_false c36; clear c36
         by_cases c39 : (bt a0 x3_1) = 45
         ·rw [if_pos c39] at H; have c39b0 := beq_iff_eq.mpr c39; have c39b1 := bne_eq_false_iff_eq.mpr c39; clear c39; obtain rfl := Option.some.inj H
          go_wp2
          go_ret
          exact ⟨cl, d0⟩
         rw [if_neg c39] at H; have c39b0 := beq_eq_false_iff_ne.mpr c39; have c39b1 := bne_iff_ne.mpr c39; obtain rfl := Option.some.inj H
         go_wp2
         go_ret
         exact ⟨cl, d0⟩
        rw [if_neg c34] at H; have c34b0 : decide (97 ≤ (bt a0 x3_1)) = false := decide_eq_false c34; clear c34
        by_cases c40 : (bt a0 x3_1) ≥ 48
        ·rw [if_pos c40] at H; have c40b0 : decide (48 ≤ (bt a0 x3_1)) = true := decide_eq_true c40; clear c40
         by_cases c41 : (bt a0 x3_1) ≤ 57
         ·rw [if_pos c41] at H; have c41b0 := decide_eq_true c41; clear c41; have H' := Aside0.mk H; clear H
          go_wp2
          go_roundg kj4
          case measure => have := HK1.out; have := HJ4.out; omega
          case rel => exact ⟨(wrap64 (x3_1 + 1)), cl, H', ⟨by have := HK1.out; have := HJ4.out; omega⟩, d0⟩
         rw [if_neg c41] at H; have c41b0 := decide_eq_false c41; clear c41
         by_cases c42 : (bt a0 x3_1) = 45
         ·rw [if_pos c42] at H; have c42b0 := beq_iff_eq.mpr c42; have c42b1 := bne_eq_false_iff_eq.mpr c42; clear c42; obtain rfl := Option.some.inj H
          go_wp2
          go_ret
          exact ⟨cl, d0⟩
         rw [if_neg c42] at H; have c42b0 := beq_eq_false_iff_ne.mpr c42; have c42b1 := bne_iff_ne.mpr c42; obtain rfl := Option.some.inj H
         go_wp2
         go_ret
         exact ⟨cl, d0⟩
        rw [if_neg c40] at H; have c40b0 : decide (48 ≤ (bt a0 x3_1)) = false := decide_eq_false c40; clear c40
        by_cases c43 : (bt a0 x3_1) = 45
        ·rw [if_pos c43] at H; have c43b0 := beq_iff_eq.mpr c43; have c43b1 := bne_eq_false_iff_eq.mpr c43; clear c43; obtain rfl := Option.some.inj H
         go_wp2
         go_ret
         exact ⟨cl, d0⟩
        rw [if_neg c43] at H; have c43b0 := beq_eq_false_iff_ne.mpr c43; have c43b1 := bne_iff_ne.mpr c43; obtain rfl := Option.some.inj H
        go_wp2
        go_ret
        exact ⟨cl, d0⟩
       rw [if_neg c33] at H; have c33b0 := beq_eq_false_iff_ne.mpr c33; have c33b1 := bne_iff_ne.mpr c33
       by_cases c44 : (bt a0 x3_1) ≥ 97
       ·rw [if_pos c44] at H; have c44b0 : decide (97 ≤ (bt a0 x3_1)) = true := decide_eq_true c44; clear c44
        by_cases c45 : (bt a0 x3_1) ≤ 122
        ·rw [if_pos c45] at H; have c45b0 := decide_eq_true c45; clear c45; have H' := Aside0.mk H; clear H
         go_wp2
         go_roundg kj4
         case measure => have := HK1.out; have := HJ4.out; omega
         case rel => exact ⟨(wrap64 (x3_1 + 1)), cl, H', ⟨by have := HK1.out; have := HJ4.out; omega⟩, d0⟩
        rw [if_neg c45] at H; have c45b0 := decide_eq_false c45; clear c45
        by_cases c46 : (bt a0 x3_1) ≥ 48
        ·rw [if_pos c46] at H; have c46b0 : decide (48 ≤ (bt a0 x3_1)) = true := decide_eq_true c46; clear c46
         by_cases c47 : (bt a0 x3_1) ≤ 57
         ·rw [if_pos c47] at H; have c47b0 := decide_eq_true c47; clear c47; have H' := Aside0.mk H; clear H
          go_wp2
          go_roundg kj4
          case measure => have := HK1.out; have := HJ4.out; omega
          case rel => exact ⟨(wrap64 (x3_1 + 1)), cl, H', ⟨by have := HK1.out; have := HJ4.out; omega⟩, d0⟩
         rw [if_neg c47] at H; have c47b0 := decide_eq_false c47; clear c47
         by_cases c48 : (bt a0 x3_1) = 45
         ·rw [if_pos c48] at H; have c48b0 := beq_iff_eq.mpr c48; have c48b1 := bne_eq_false_iff_eq.mpr c48; clear c48
          by_cases c49 : x3_1 = (wrap64 ((a0.size : Int) - 1))
          ·rw [if_pos c49] at H; have c49b0 := beq_iff_eq.mpr c49; have c49b1 := bne_eq_false_iff_eq.mpr c49; clear c49; obtain rfl := Option.some.inj H
           go_wp2
           go_ret
           exact ⟨cl, d0⟩
          rw [if_neg c49] at H; have c49b0 := beq_eq_false_iff_ne.mpr c49; have c49b1 := bne_iff_ne.mpr c49; have H' := Aside0.mk H; clear H
          go_wp2
          go_roundg kj4
          case measure => have := HK1.out; have := HJ4.out; omega
          case rel => exact ⟨(wrap64 (x3_1 + 1)), cl, H', ⟨by have := HK1.out; have := HJ4.out; omega⟩, d0⟩
         rw [if_neg c48] at H; have c48b0 := beq_eq_false_iff_ne.mpr c48; have c48b1 := bne_iff_ne.mpr c48; obtain rfl := Option.some.inj H
         go_wp2
         go_ret
         exact ⟨cl, d0⟩
        rw [if_neg c46] at H; have c46b0 : decide (48 ≤ (bt a0 x3_1)) = false := decide_eq_false c46; clear c46
        by_cases c50 : (bt a0 x3_1) = 45
        ·rw [if_pos c50] at H; have c50b0 := beq_iff_eq.mpr c50; have c50b1 := bne_eq_false_iff_eq.mpr c50; clear c50
         by_cases c51 : x3_1 = (wrap64 ((a0.size : Int) - 1))
         ·rw [if_pos c51] at H; have c51b0 := beq_iff_eq.mpr c51; have c51b1 := bne_eq_false_iff_eq.mpr c51; clear c51; obtain rfl := Option.some.inj H
          go_wp2
          go_ret
          exact ⟨cl, d0⟩
         rw [if_neg c51] at H; have c51b0 := beq_eq_false_iff_ne.mpr c51; have c51b1 := bne_iff_ne.mpr c51; have H' := Aside0.mk H; clear H
         go_wp2
         go_roundg kj4
         case measure => have := HK1.out; have := HJ4.out; omega
         case rel => exact ⟨(wrap64 (x3_1 + 1)), cl, H', ⟨by have := HK1.out; have := HJ4.out; omega⟩, d0⟩
        rw [if_neg c50] at H; have c50b0 := beq_eq_false_iff_ne.mpr c50; have c50b1 := bne_iff_ne.mpr c50; obtain rfl := Option.some.inj H
        go_wp2
        go_ret
        exact ⟨cl, d0⟩
       rw [if_neg c44] at H; have c44b0 : decide (97 ≤ (bt a0 x3_1)) = false := decide_eq_false c44; clear c44
       by_cases c52 : (bt a0 x3_1) ≥ 48
       ·rw [if_pos c52] at H; have c52b0 : decide (48 ≤ (bt a0 x3_1)) = true := decide_eq_true c52; clear c52
        by_cases c53 : (bt a0 x3_1) ≤ 57
        ·rw [if_pos c53] at H; have c53b0 := decide_eq_true c53; clear c53; have H' := Aside0.mk H; clear H
         go_wp2
         go_roundg kj4
         case measure => have := HK1.out; have := HJ4.out; omega
         case rel => exact ⟨(wrap64 (x3_1 + 1)), cl, H', ⟨by have := HK1.out; have := HJ4.out; omega⟩, d0⟩
        rw [if_neg c53] at H; have c53b0 := decide_eq_false c53; clear c53
        by_cases c54 : (bt a0 x3_1) = 45
        ·rw [if_pos c54] at H; have c54b0 := beq_iff_eq.mpr c54; have c54b1 := bne_eq_false_iff_eq.mpr c54; clear c54
         by_cases c55 : x3_1 = (wrap64 ((a0.size : Int) - 1))
         ·rw [if_pos c55] at H; have c55b0 := beq_iff_eq.mpr c55; have c55b1 := bne_eq_false_iff_eq.mpr c55; clear c55; obtain rfl := Option.some.inj H
          go_wp2
          go_ret
          exact ⟨cl, d0⟩
         rw [if_neg c55] at H; have c55b0 := beq_eq_false_iff_ne.mpr c55; have c55b1 := bne_iff_ne.mpr c55; have H' := Aside0.mk H; clear H
         go_wp2
         go_roundg kj4
         case measure => have := HK1.out; have := HJ4.out; omega
         case rel => exact ⟨(wrap64 (x3_1 + 1)), cl, H', ⟨by have := HK1.out; have := HJ4.out; omega⟩, d0⟩
        rw [if_neg c54] at H; have c54b0 := beq_eq_false_iff_ne.mpr c54; have c54b1 := bne_iff_ne.mpr c54; obtain rfl := Option.some.inj H
        go_wp2
        go_ret
        exact ⟨cl, d0⟩
       rw [if_neg c52] at H; have c52b0 : decide (48 ≤ (bt a0 x3_1)) = false := decide_eq_false c52; clear c52
       by_cases c56 : (bt a0 x3_1) = 45
       ·rw [if_pos c56] at H; have c56b0 := beq_iff_eq.mpr c56; have c56b1 := bne_eq_false_iff_eq.mpr c56; clear c56
        by_cases c57 : x3_1 = (wrap64 ((a0.size : Int) - 1))
        ·rw [if_pos c57] at H; have c57b0 := beq_iff_eq.mpr c57; have c57b1 := bne_eq_false_iff_eq.mpr c57; clear c57; obtain rfl := Option.some.inj H
         go_wp2
         go_ret
         exact ⟨cl, d0⟩
        rw [if_neg c57] at H; have c57b0 := beq_eq_false_iff_ne.mpr c57; have c57b1 := bne_iff_ne.mpr c57; have H' := Aside0.mk H; clear H
        go_wp2
        go_roundg kj4
        case measure => have := HK1.out; have := HJ4.out; omega
        case rel => exact ⟨(wrap64 (x3_1 + 1)), cl, H', ⟨by have := HK1.out; have := HJ4.out; omega⟩, d0⟩
       rw [if_neg c56] at H; have c56b0 := beq_eq_false_iff_ne.mpr c56; have c56b1 := bne_iff_ne.mpr c56; obtain rfl := Option.some.inj H
       go_wp2
       go_ret
       exact ⟨cl, d0⟩
    rw [if_neg c3] at H; exact absurd H (by simp)
   rw [if_neg c2] at H; have c2b0 := decide_eq_false c2; clear c2; obtain rfl := Option.some.inj H
   go_wp2
   go_ret
   exact ⟨cl, d0⟩

end Go.Proofs.YtnnlhpmkfijppaaGreatDoor.Fn
namespace Go.Proofs.YtnnlhpmkfijppaaGreatDoor.Fn
open Go.RowKit Go.Proofs.YtnnlhpmkfijppaaGreatDoorW.PrintWords Go.Proofs.YtnnlhpmkfijppaaGreatDoorW.PrintLast Go.Proofs.YtnnlhpmkfijppaaGreatDoorW.PrintMore
attribute [local go_sem] max2_int min2_int max_two min_two max_three min_three max_four min_four
set_option linter.unusedVariables false
set_option linter.unusedSimpArgs false
def bulletinref13_Domain.l0 : Nat → ByteArray → List ByteArray → Bool → Int → Option (ByteArray × Int)
 | 0, _, _, _, _ => none
 | k + 1, x0, x4, x5, x6 => if x6 < (x4.length : Int) then (if 0 ≤ x6 then ((bulletinref13_label.f k (rdOf ByteArray.empty x4 x6)).bind fun t384 => (if t384 = true then (if ((rdOf ByteArray.empty x4 x6).size : Int) > 63 then (bulletinref13_Domain.l0 k x0 x4 true (wrap64 (x6 + 1))) else (bulletinref13_Domain.l0 k x0 x4 x5 (wrap64 (x6 + 1)))) else (some ((⟨#[]⟩ : ByteArray), 130)))) else (none)) else (if x5 = true then (some ((⟨#[]⟩ : ByteArray), 2)) else ((bulletinref06_Fold.f k x0).bind fun t382 => (some (t382, 0))))
def bulletinref13_Domain.f (k : Nat) (a0 : ByteArray) : Option (ByteArray × Int) := (bulletinref13_Split.f k a0 46).bind fun t379 => (bulletinref13_Domain.l0 k a0 t379 (decide ((a0.size : Int) > 253)) 0)
set_option maxHeartbeats 8000000 in
set_option maxRecDepth 100000 in
theorem bulletinref13_Domain.calls (k : Nat) (a0 : ByteArray) (r1 : ByteArray) (r2 : Int) (w : World) (h : bulletinref13_Domain.f k a0 = some (r1, r2)) :
  Calls Tryz.prog 81 #[.string a0] w fun e w' => e = .returned (.tuple #[.string r1, .int .i64 r2]) ∧ Below w.heap.size w w' := by
 have HB := Aside0.mk (Below.refl w.heap.size w); have H : ((bulletinref13_Split.f k a0 46).bind fun t379 => (bulletinref13_Domain.l0 k a0 t379 (decide ((a0.size : Int) > 253)) 0)) = some (r1, r2) := h; clear h; replace H := Option.bind_eq_some_iff.mp H; obtain ⟨t379, A20, H⟩ := H; have A2 := Aside0.mk A20; clear A20; have H' := Aside0.mk H; clear H
 go_enter Tryz.func81, Tryz.ntmps81
 go_wp2_with (first | ((with_reducible refine gate_callee (f := 70) rfl ?_); refine goesL_ (some 8) rfl rfl Tryz.func70 (by kernel_rfl) rfl #[.string a0, .int .u8 46] rfl am ?_; (with_reducible refine (bulletinref13_Split.calls k a0 46 t379 _ A2.out).mono ?_); rintro e w3 ⟨v380, rfl, ho0, hb⟩; refine ⟨_, rfl, ?_⟩; have n0_ := Aside0.mk (Kd.R_lower ho0 (below_size bw)); have n1_ := Aside0.mk (below_step bw hb); clear HB; have HO381 := n0_; have HB := n1_; clear n0_ n1_; (try clear hb); (try clear hb2); (try clear hk); (try clear hi); (try clear ho0)))
 go_loopg [5, 6] k (fun kq v5 v6 w' => ∃ (x5_1 : Bool) (x6_1 : Int), v5 = .bool x5_1 ∧ v6 = .int .i64 x6_1 ∧ Aside0 (bulletinref13_Domain.l0 kq a0 t379 x5_1 x6_1 = some (r1, r2)) ∧ Aside0 (kq ≤ k) ∧ Aside0 (Kd.R Kd.string 9 w' w.heap.size (fun _ => True) v380 t379) ∧ Aside0 (Below w.heap.size w w'))
 case atStart => exact ⟨(decide ((a0.size : Int) > 253)), (0), cl, cl, H', ⟨Nat.le_refl _⟩, ⟨ra HO381.out⟩, ⟨bw⟩⟩
 case round =>
  clear H'
  try clear p2
  obtain ⟨x5_1, x6_1, rfl, rfl, HA, HK1, HO_4, HB⟩ := hrel; cases gk with
  | zero => exact absurd HA.out (by simp [bulletinref13_Domain.l0])
  | succ k1 =>
   have H := HA.out; clear HA; simp only [bulletinref13_Domain.l0] at H
   by_cases c4 : x6_1 < (t379.length : Int)
   ·rw [if_pos c4] at H; have c4b0 := decide_eq_true c4; clear c4
    by_cases c5 : 0 ≤ x6_1
    ·rw [if_pos c5] at H; have c5b0 := decide_eq_true c5; clear c5; replace H := Option.bind_eq_some_iff.mp H; obtain ⟨t384, A60, H⟩ := H; have A6 := Aside0.mk A60; clear A60
     by_cases c7 : t384 = true
     ·subst c7; rw [if_pos rfl] at H
      by_cases c8 : ((rdOf ByteArray.empty t379 x6_1).size : Int) > 63
      ·rw [if_pos c8] at H; have c8b0 : decide (63 < ((rdOf ByteArray.empty t379 x6_1).size : Int)) = true := decide_eq_true c8; have c8b1 : decide (63 < (rdOf ByteArray.empty t379 x6_1).size) = true := decide_eq_true (by omega); clear c8; have H' := Aside0.mk H; clear H; obtain ⟨Ao9, co9, eo9⟩ := Kd.R_slice HO_4.out; subst eo9; have p383 : 0 ≤ (x6_1 : Int) := od; have q383 : x6_1 < (t379.length : Int) := od; obtain ⟨ad383, e383, hx383_0⟩ := Kd.at_string (Kd.R_reads' HO_4.out).2.2 x6_1 p383 q383; cases e383; replace p383 := eq_true p383; replace q383 := eq_true q383
       go_wp2_with (first | ((with_reducible refine gate_callee (f := 97) rfl ?_); refine goesL_ (some 22) rfl rfl Tryz.func97 (by kernel_rfl) rfl #[.string (rdOf ByteArray.empty t379 x6_1)] rfl am ?_; (with_reducible refine (bulletinref13_label.calls k1 (rdOf ByteArray.empty t379 x6_1) true _ A6.out).mono ?_); rintro e w' ⟨rfl, ⟨nd, rfl⟩⟩; refine ⟨_, rfl, ?_⟩; have p385 : 0 ≤ (x6_1 : Int) := od; have q385 : x6_1 < (t379.length : Int) := od; obtain ⟨ad385, e385, hx385_0⟩ := Kd.at_string (Kd.R_reads' HO_4.out).2.2 x6_1 p385 q385; obtain rfl : ad383 = ad385 := (by injection e385); replace p385 := eq_true p385; replace q385 := eq_true q385))
       go_roundg k1
       case measure => have := HK1.out; omega
       case rel => exact ⟨(true), (wrap64 (x6_1 + 1)), cl, cl, H', ⟨by have := HK1.out; omega⟩, ⟨ra HO_4.out⟩, ⟨bw⟩⟩
      rw [if_neg c8] at H; have c8b0 : decide (63 < ((rdOf ByteArray.empty t379 x6_1).size : Int)) = false := decide_eq_false c8; have c8b1 : decide (63 < (rdOf ByteArray.empty t379 x6_1).size) = false := decide_eq_false (by omega); clear c8; have H' := Aside0.mk H; clear H; obtain ⟨Ao10, co10, eo10⟩ := Kd.R_slice HO_4.out; subst eo10; have p383 : 0 ≤ (x6_1 : Int) := od; have q383 : x6_1 < (t379.length : Int) := od; obtain ⟨ad383, e383, hx383_0⟩ := Kd.at_string (Kd.R_reads' HO_4.out).2.2 x6_1 p383 q383; cases e383; replace p383 := eq_true p383; replace q383 := eq_true q383
      go_wp2_with (first | ((with_reducible refine gate_callee (f := 97) rfl ?_); refine goesL_ (some 22) rfl rfl Tryz.func97 (by kernel_rfl) rfl #[.string (rdOf ByteArray.empty t379 x6_1)] rfl am ?_; (with_reducible refine (bulletinref13_label.calls k1 (rdOf ByteArray.empty t379 x6_1) true _ A6.out).mono ?_); rintro e w' ⟨rfl, ⟨nd, rfl⟩⟩; refine ⟨_, rfl, ?_⟩; have p385 : 0 ≤ (x6_1 : Int) := od; have q385 : x6_1 < (t379.length : Int) := od; obtain ⟨ad385, e385, hx385_0⟩ := Kd.at_string (Kd.R_reads' HO_4.out).2.2 x6_1 p385 q385; obtain rfl : ad383 = ad385 := (by injection e385); replace p385 := eq_true p385; replace q385 := eq_true q385))
      go_roundg k1
      case measure => have := HK1.out; omega
      case rel => exact ⟨(x5_1), (wrap64 (x6_1 + 1)), cl, cl, H', ⟨by have := HK1.out; omega⟩, ⟨ra HO_4.out⟩, ⟨bw⟩⟩
     replace c7 := Bool.eq_false_iff.mpr c7; subst c7; rw [if_neg nft] at H; simp only [Option.some.injEq, Prod.mk.injEq] at H; obtain ⟨rfl, rfl⟩ := H; obtain ⟨Ao11, co11, eo11⟩ := Kd.R_slice HO_4.out; subst eo11; have p383 : 0 ≤ (x6_1 : Int) := od; have q383 : x6_1 < (t379.length : Int) := od; obtain ⟨ad383, e383, hx383_0⟩ := Kd.at_string (Kd.R_reads' HO_4.out).2.2 x6_1 p383 q383; cases e383; replace p383 := eq_true p383; replace q383 := eq_true q383
     go_wp2_with (first | ((with_reducible refine gate_callee (f := 97) rfl ?_); refine goesL_ (some 22) rfl rfl Tryz.func97 (by kernel_rfl) rfl #[.string (rdOf ByteArray.empty t379 x6_1)] rfl am ?_; (with_reducible refine (bulletinref13_label.calls k1 (rdOf ByteArray.empty t379 x6_1) false _ A6.out).mono ?_); rintro e w' ⟨rfl, ⟨nd, rfl⟩⟩; refine ⟨_, rfl, ?_⟩))
     go_ret2
     exact ⟨ew, bw⟩
    rw [if_neg c5] at H; exact absurd H (by simp)
   rw [if_neg c4] at H; have c4b0 := decide_eq_false c4; clear c4
   by_cases c12 : x5_1 = true
   ·subst c12; rw [if_pos rfl] at H; simp only [Option.some.injEq, Prod.mk.injEq] at H; obtain ⟨rfl, rfl⟩ := H; obtain ⟨Ao13, co13, eo13⟩ := Kd.R_slice HO_4.out; subst eo13
    go_wp2
    go_ret2
    exact ⟨ew, bw⟩
   replace c12 := Bool.eq_false_iff.mpr c12; subst c12; rw [if_neg nft] at H; replace H := Option.bind_eq_some_iff.mp H; obtain ⟨t382, A140, H⟩ := H; have A14 := Aside0.mk A140; clear A140; simp only [Option.some.injEq, Prod.mk.injEq] at H; obtain ⟨rfl, rfl⟩ := H; obtain ⟨Ao15, co15, eo15⟩ := Kd.R_slice HO_4.out; subst eo15
   go_wp2_with (first | ((with_reducible refine gate_callee (f := 62) rfl ?_); refine goesL_ (some 32) rfl rfl Tryz.func62 (by kernel_rfl) rfl #[.string a0] rfl am ?_; (with_reducible refine (bulletinref06_Fold.calls k1 a0 t382 _ A14.out).mono ?_); rintro e w16 ⟨rfl, hb⟩; refine ⟨_, rfl, ?_⟩; have n0_ := Aside0.mk (Kd.R_below (ra HO_4.out) hb); have n1_ := Aside0.mk (below_step bw hb); clear HO_4; clear HB; have HO_4 := n0_; have HB := n1_; clear n0_ n1_; (try clear hb); (try clear hb2); (try clear hk); (try clear hi)))
   go_ret2
   exact ⟨ew, bw⟩

def bulletinref12_Text.f (a0 : Int) : Option (Bool) := if a0 = 9 then (some true) else (if a0 ≥ 32 then (if a0 ≤ 126 then (some true) else (some (decide (a0 > 127)))) else (some (decide (a0 > 127))))
set_option maxHeartbeats 8000000 in
set_option maxRecDepth 100000 in
theorem bulletinref12_Text.calls (a0 : Int) (r : Bool) (w : World) (h : bulletinref12_Text.f a0 = some r) :
  Calls Tryz.prog 67 #[.int .u8 a0] w fun e w' => e = .returned (.bool r) ∧ Drawn0 w w' := by
 have H : (if a0 = 9 then (some true) else (if a0 ≥ 32 then (if a0 ≤ 126 then (some true) else (some (decide (a0 > 127)))) else (some (decide (a0 > 127))))) = some r := h; clear h
 by_cases c2 : a0 = 9
 ·rw [if_pos c2] at H; have c2b0 := beq_iff_eq.mpr c2; have c2b1 := bne_eq_false_iff_eq.mpr c2; clear c2; obtain rfl := Option.some.inj H
  go_enter Tryz.func67, Tryz.ntmps67
  go_wp2
  go_ret
  exact ⟨cl, d0⟩
 rw [if_neg c2] at H; have c2b0 := beq_eq_false_iff_ne.mpr c2; have c2b1 := bne_iff_ne.mpr c2
 by_cases c3 : a0 ≥ 32
 ·rw [if_pos c3] at H; have c3b0 : decide (32 ≤ a0) = true := decide_eq_true c3; clear c3
  by_cases c4 : a0 ≤ 126
  ·rw [if_pos c4] at H; have c4b0 := decide_eq_true c4; clear c4; obtain rfl := Option.some.inj H
   go_enter Tryz.func67, Tryz.ntmps67
   go_wp2
   go_ret
   exact ⟨cl, d0⟩
  rw [if_neg c4] at H; have c4b0 := decide_eq_false c4; clear c4; obtain rfl := Option.some.inj H
  go_enter Tryz.func67, Tryz.ntmps67
  go_wp2
  go_ret
  exact ⟨cl, d0⟩
 rw [if_neg c3] at H; have c3b0 : decide (32 ≤ a0) = false := decide_eq_false c3; clear c3; obtain rfl := Option.some.inj H
 go_enter Tryz.func67, Tryz.ntmps67
 go_wp2
 go_ret
 exact ⟨cl, d0⟩

end Go.Proofs.YtnnlhpmkfijppaaGreatDoor.Fn
namespace Go.Proofs.YtnnlhpmkfijppaaGreatDoor.Fn
open Go.RowKit Go.Proofs.YtnnlhpmkfijppaaGreatDoorW.PrintWords Go.Proofs.YtnnlhpmkfijppaaGreatDoorW.PrintLast Go.Proofs.YtnnlhpmkfijppaaGreatDoorW.PrintMore
attribute [local go_sem] max2_int min2_int max_two min_two max_three min_three max_four min_four
set_option linter.unusedVariables false
set_option linter.unusedSimpArgs false

mutual
def bulletinref12_Quote.l0 : Nat → ByteArray → ByteArray → Int → Option (ByteArray)
 | 0, _, _, _ => none
 | k + 1, x0, x3, x4 => if x4 < (x0.size : Int) then (if 0 ≤ x4 then (if x4 ≤ (wrap64 (x4 + 1)) then (if (wrap64 (x4 + 1)) ≤ (x0.size : Int) then (if (bt x0 x4) = 34 then (bulletinref12_Quote.j1 k x0 x3 x4 (x0.extract (x4 : Int).toNat ((wrap64 (x4 + 1)) : Int).toNat) true) else (bulletinref12_Quote.j1 k x0 x3 x4 (x0.extract (x4 : Int).toNat ((wrap64 (x4 + 1)) : Int).toNat) ((bt x0 x4) == 92))) else (none)) else (none)) else (none)) else (if 1 + x3.size ≤ 9223372036854775807 then (if ((⟨#[34]⟩ : ByteArray) ++ x3).size + 1 ≤ 9223372036854775807 then (some (((⟨#[34]⟩ : ByteArray) ++ x3) ++ (⟨#[34]⟩ : ByteArray))) else (none)) else (none))
def bulletinref12_Quote.j1 : Nat → ByteArray → ByteArray → Int → ByteArray → Bool → Option (ByteArray)
 | 0, _, _, _, _, _ => none
 | k + 1, x0, x3, x4, x5, x26 => if x26 = true then (if 1 + x5.size ≤ 9223372036854775807 then (if 0 ≤ x4 then (if x4 < (x0.size : Int) then ((bulletinref12_Text.f (bt x0 x4)).bind fun t371 => (if t371 = true then (if x3.size + ((⟨#[92]⟩ : ByteArray) ++ x5).size ≤ 9223372036854775807 then (bulletinref12_Quote.l0 k x0 (x3 ++ ((⟨#[92]⟩ : ByteArray) ++ x5)) (wrap64 (x4 + 1))) else (none)) else (if x3.size + 1 ≤ 9223372036854775807 then (bulletinref12_Quote.l0 k x0 (x3 ++ (⟨#[32]⟩ : ByteArray)) (wrap64 (x4 + 1))) else (none)))) else (none)) else (none)) else (none)) else (if 0 ≤ x4 then (if x4 < (x0.size : Int) then ((bulletinref12_Text.f (bt x0 x4)).bind fun t372 => (if t372 = true then (if x3.size + x5.size ≤ 9223372036854775807 then (bulletinref12_Quote.l0 k x0 (x3 ++ x5) (wrap64 (x4 + 1))) else (none)) else (if x3.size + 1 ≤ 9223372036854775807 then (bulletinref12_Quote.l0 k x0 (x3 ++ (⟨#[32]⟩ : ByteArray)) (wrap64 (x4 + 1))) else (none)))) else (none)) else (none))
end
def bulletinref12_Quote.f (k : Nat) (a0 : ByteArray) : Option (ByteArray) := bulletinref12_Quote.l0 k a0 (⟨#[]⟩ : ByteArray) 0
set_option maxHeartbeats 8000000 in
set_option maxRecDepth 100000 in
theorem bulletinref12_Quote.calls (k : Nat) (a0 : ByteArray) (r : ByteArray) (w : World) (h : bulletinref12_Quote.f k a0 = some r) :
  Calls Tryz.prog 51 #[.string a0] w fun e w' => e = .returned (.string r) ∧ Drawn0 w w' := by
 have H : (bulletinref12_Quote.l0 k a0 (⟨#[]⟩ : ByteArray) 0) = some r := h; clear h; have H' := Aside0.mk H; clear H
 go_enter Tryz.func51, Tryz.ntmps51
 go_wp2
 go_loopg [3, 4] k (fun kq v3 v4 w' => ∃ (x3_1 : ByteArray) (x4_1 : Int), v3 = .string x3_1 ∧ v4 = .int .i64 x4_1 ∧ Aside0 (bulletinref12_Quote.l0 kq a0 x3_1 x4_1 = some r) ∧ Aside0 (kq ≤ k) ∧ Drawn0 w w')
 case atStart => exact ⟨((⟨#[]⟩ : ByteArray)), (0), cl, cl, H', ⟨Nat.le_refl _⟩, d0⟩
 case round =>
  clear H'; obtain ⟨x3_1, x4_1, rfl, rfl, HA, HK1, ⟨m1, rfl⟩⟩ := hrel; cases gk with
  | zero => exact absurd HA.out (by simp [bulletinref12_Quote.l0])
  | succ k1 =>
   have H := HA.out; clear HA; simp only [bulletinref12_Quote.l0] at H
   by_cases c2 : x4_1 < (a0.size : Int)
   ·rw [if_pos c2] at H; have c2b0 := decide_eq_true c2; clear c2
    by_cases c3 : 0 ≤ x4_1
    ·rw [if_pos c3] at H; have c3b0 := eq_true c3; have c3b1 := decide_eq_true c3; clear c3
     by_cases c4 : x4_1 ≤ (wrap64 (x4_1 + 1))
     ·rw [if_pos c4] at H; have c4b0 := eq_true c4; have c4b1 := decide_eq_true c4
      by_cases c5 : (wrap64 (x4_1 + 1)) ≤ (a0.size : Int)
      ·rw [if_pos c5] at H; have c5b0 := eq_true c5; have c5b1 := decide_eq_true c5; have HC6 := Aside0.mk H; clear H
       go_upto_region 6 with (fail)
       go_cut [26] (fun v26 wc => ∃ (kq : Nat) (x26_5 : Bool), v26 = .bool x26_5 ∧ Aside0 (bulletinref12_Quote.j1 kq a0 x3_1 x4_1 (a0.extract (x4_1 : Int).toNat ((wrap64 (x4_1 + 1)) : Int).toNat) x26_5 = some r) ∧ Aside0 (kq ≤ k1) ∧ Drawn0 w wc)
       case first =>
        have H := HC6.out; clear HC6
        by_cases c8 : (bt a0 x4_1) = 34
        ·rw [if_pos c8] at H; have c8b0 := beq_iff_eq.mpr c8; have c8b1 := bne_eq_false_iff_eq.mpr c8; clear c8
         (first | rw [c8b0] | (simp only [i64_w, i32_w]; rw [c8b0]) | skip)
         have H' := Aside0.mk H; clear H; have p7 : 0 ≤ (x4_1 : Int) := od; have q7 : x4_1 < (a0.size : Int) := od; have hx7 := bt_at a0 x4_1; replace p7 := eq_true p7; replace q7 := eq_true q7
         go_wp2
         go_meet
         case rel => exact ⟨_, (true), cl, H', ⟨by have := HK1.out; first | omega | exact Nat.le_refl _⟩, d0⟩
        rw [if_neg c8] at H; have c8b0 := beq_eq_false_iff_ne.mpr c8; have c8b1 := bne_iff_ne.mpr c8
        (first | rw [c8b0] | (simp only [i64_w, i32_w]; rw [c8b0]) | skip)
        have H' := Aside0.mk H; clear H; have p7 : 0 ≤ (x4_1 : Int) := od; have q7 : x4_1 < (a0.size : Int) := od; have hx7 := bt_at a0 x4_1; replace p7 := eq_true p7; replace q7 := eq_true q7; have p9 : 0 ≤ (x4_1 : Int) := od; have q9 : x4_1 < (a0.size : Int) := od; have hx9 := bt_at a0 x4_1; replace p9 := eq_true p9; replace q9 := eq_true q9
        go_wp2
        go_meet
        case rel => exact ⟨_, (((bt a0 x4_1) == 92)), cl, H', ⟨by have := HK1.out; first | omega | exact Nat.le_refl _⟩, d0⟩
       case rest =>
        clear HC6
        try clear c2
        try clear c2b0
        try clear p2
        try clear c3
        try clear c3b0
        try clear c3b1
        try clear c4
        try clear c4b0
        try clear c4b1
        try clear c5
        try clear c5b0
        try clear c5b1
        try clear p6
        try clear p7
        try clear q7
        try clear hx7
        try clear c8
        try clear c8b0
        try clear c8b1
        try clear p9
        try clear q9
        try clear hx9
        try clear p7
        try clear p9
        try clear q7
        try clear q9
        obtain ⟨kq, x26_5, rfl, HA, HJ5, ⟨mc5, rfl⟩⟩ := hcut; cases kq with
        | zero => exact absurd HA.out (by simp [bulletinref12_Quote.j1])
        | succ kj5 =>
         have H := HA.out; clear HA; simp only [bulletinref12_Quote.j1] at H
         by_cases c10 : x26_5 = true
         ·subst c10; rw [if_pos rfl] at H
          by_cases c11 : 1 + (a0.extract (x4_1 : Int).toNat ((wrap64 (x4_1 + 1)) : Int).toNat).size ≤ 9223372036854775807
          ·rw [if_pos c11] at H; have c11b0 := eq_true c11; have c11b1 := decide_eq_true c11
           try have c11b2 : (9223372036854775807 < 1 + (a0.extract (x4_1 : Int).toNat ((wrap64 (x4_1 + 1)) : Int).toNat).size) = False := eq_false (Nat.not_lt.2 c11)
           try (have c11b3 := c11; simp only [ByteArray.size_append, size_lit, ByteArray.size_extract, List.size_toArray, List.length_cons, List.length_nil, Nat.zero_add, Nat.reduceAdd] at c11b3; have c11b4 := eq_false (Nat.not_lt.2 c11b3))
           by_cases c12 : 0 ≤ x4_1
           ·rw [if_pos c12] at H; have c12b0 := decide_eq_true c12; clear c12
            by_cases c13 : x4_1 < (a0.size : Int)
            ·rw [if_pos c13] at H; have c13b0 := decide_eq_true c13; clear c13; replace H := Option.bind_eq_some_iff.mp H; obtain ⟨t371, A150, H⟩ := H; have A15 := Aside0.mk A150; clear A150
             by_cases c16 : t371 = true
             ·subst c16; rw [if_pos rfl] at H
              by_cases c17 : x3_1.size + ((⟨#[92]⟩ : ByteArray) ++ (a0.extract (x4_1 : Int).toNat ((wrap64 (x4_1 + 1)) : Int).toNat)).size ≤ 9223372036854775807
              ·rw [if_pos c17] at H; have c17b0 := eq_true c17; have c17b1 := decide_eq_true c17
               try have c17b2 : (9223372036854775807 < x3_1.size + ((⟨#[92]⟩ : ByteArray) ++ (a0.extract (x4_1 : Int).toNat ((wrap64 (x4_1 + 1)) : Int).toNat)).size) = False := eq_false (Nat.not_lt.2 c17)
               try (have c17b3 := c17; simp only [ByteArray.size_append, size_lit, ByteArray.size_extract, List.size_toArray, List.length_cons, List.length_nil, Nat.zero_add, Nat.reduceAdd] at c17b3; have c17b4 := eq_false (Nat.not_lt.2 c17b3))
               have H' := Aside0.mk H; clear H; have p14 : 0 ≤ (x4_1 : Int) := od; have q14 : x4_1 < (a0.size : Int) := od; have hx14 := bt_at a0 x4_1; replace p14 := eq_true p14; replace q14 := eq_true q14
               go_wp2_with (first | ((with_reducible refine gate_callee (f := 67) rfl ?_); refine goesL_ (some 32) rfl rfl Tryz.func67 (by kernel_rfl) rfl #[.int .u8 (bt a0 x4_1)] rfl am ?_; (with_reducible refine (bulletinref12_Text.calls (bt a0 x4_1) true _ A15.out).mono ?_); rintro e w' ⟨rfl, ⟨nd, rfl⟩⟩; refine ⟨_, rfl, ?_⟩))
               go_roundg kj5
               case measure => have := HK1.out; have := HJ5.out; omega
               case rel => exact ⟨(x3_1 ++ ((⟨#[92]⟩ : ByteArray) ++ (a0.extract (x4_1 : Int).toNat ((wrap64 (x4_1 + 1)) : Int).toNat))), (wrap64 (x4_1 + 1)), cl, cl, H', ⟨by have := HK1.out; have := HJ5.out; omega⟩, d0⟩
              rw [if_neg c17] at H; exact absurd H (by simp)
             replace c16 := Bool.eq_false_iff.mpr c16; subst c16; rw [if_neg nft] at H
             by_cases c18 : x3_1.size + 1 ≤ 9223372036854775807
             ·rw [if_pos c18] at H; have c18b0 := eq_true c18; have c18b1 := decide_eq_true c18
              try have c18b2 : (9223372036854775807 < x3_1.size + 1) = False := eq_false (Nat.not_lt.2 c18)
              have H' := Aside0.mk H; clear H; have p14 : 0 ≤ (x4_1 : Int) := od; have q14 : x4_1 < (a0.size : Int) := od; have hx14 := bt_at a0 x4_1; replace p14 := eq_true p14; replace q14 := eq_true q14
              go_wp2_with (first | ((with_reducible refine gate_callee (f := 67) rfl ?_); refine goesL_ (some 32) rfl rfl Tryz.func67 (by kernel_rfl) rfl #[.int .u8 (bt a0 x4_1)] rfl am ?_; (with_reducible refine (bulletinref12_Text.calls (bt a0 x4_1) false _ A15.out).mono ?_); rintro e w' ⟨rfl, ⟨nd, rfl⟩⟩; refine ⟨_, rfl, ?_⟩))
              go_roundg kj5
              case measure => have := HK1.out; have := HJ5.out; omega
              case rel => exact ⟨(x3_1 ++ (⟨#[32]⟩ : ByteArray)), (wrap64 (x4_1 + 1)), cl, cl, H', ⟨by have := HK1.out; have := HJ5.out; omega⟩, d0⟩
             rw [if_neg c18] at H; exact absurd H (by simp)
            rw [if_neg c13] at H; exact absurd H (by simp)
           rw [if_neg c12] at H; exact absurd H (by simp)
          rw [if_neg c11] at H; exact absurd H (by simp)
         replace c10 := Bool.eq_false_iff.mpr c10; subst c10; rw [if_neg nft] at H
         by_cases c19 : 0 ≤ x4_1
         ·rw [if_pos c19] at H; have c19b0 := decide_eq_true c19; clear c19
          by_cases c20 : x4_1 < (a0.size : Int)
          ·rw [if_pos c20] at H; have c20b0 := decide_eq_true c20; clear c20; replace H := Option.bind_eq_some_iff.mp H; obtain ⟨t372, A220, H⟩ := H; have A22 := Aside0.mk A220; clear A220
           by_cases c23 : t372 = true
           ·subst c23; rw [if_pos rfl] at H
            by_cases c24 : x3_1.size + (a0.extract (x4_1 : Int).toNat ((wrap64 (x4_1 + 1)) : Int).toNat).size ≤ 9223372036854775807
            ·rw [if_pos c24] at H; have c24b0 := eq_true c24; have c24b1 := decide_eq_true c24
             try have c24b2 : (9223372036854775807 < x3_1.size + (a0.extract (x4_1 : Int).toNat ((wrap64 (x4_1 + 1)) : Int).toNat).size) = False := eq_false (Nat.not_lt.2 c24)
             try (have c24b3 := c24; simp only [ByteArray.size_append, size_lit, ByteArray.size_extract, List.size_toArray, List.length_cons, List.length_nil, Nat.zero_add, Nat.reduceAdd] at c24b3; have c24b4 := eq_false (Nat.not_lt.2 c24b3))
             have H' := Aside0.mk H; clear H; have p21 : 0 ≤ (x4_1 : Int) := od; have q21 : x4_1 < (a0.size : Int) := od; have hx21 := bt_at a0 x4_1; replace p21 := eq_true p21; replace q21 := eq_true q21
             go_wp2_with (first | ((with_reducible refine gate_callee (f := 67) rfl ?_); refine goesL_ (some 32) rfl rfl Tryz.func67 (by kernel_rfl) rfl #[.int .u8 (bt a0 x4_1)] rfl am ?_; (with_reducible refine (bulletinref12_Text.calls (bt a0 x4_1) true _ A22.out).mono ?_); rintro e w' ⟨rfl, ⟨nd, rfl⟩⟩; refine ⟨_, rfl, ?_⟩))
             go_roundg kj5
             case measure => have := HK1.out; have := HJ5.out; omega
             case rel => exact ⟨(x3_1 ++ (a0.extract (x4_1 : Int).toNat ((wrap64 (x4_1 + 1)) : Int).toNat)), (wrap64 (x4_1 + 1)), cl, cl, H', ⟨by have := HK1.out; have := HJ5.out; omega⟩, d0⟩
            rw [if_neg c24] at H; exact absurd H (by simp)
           replace c23 := Bool.eq_false_iff.mpr c23; subst c23; rw [if_neg nft] at H
           by_cases c25 : x3_1.size + 1 ≤ 9223372036854775807
           ·rw [if_pos c25] at H; have c25b0 := eq_true c25; have c25b1 := decide_eq_true c25
            try have c25b2 : (9223372036854775807 < x3_1.size + 1) = False := eq_false (Nat.not_lt.2 c25)
            have H' := Aside0.mk H; clear H; have p21 : 0 ≤ (x4_1 : Int) := od; have q21 : x4_1 < (a0.size : Int) := od; have hx21 := bt_at a0 x4_1; replace p21 := eq_true p21; replace q21 := eq_true q21
            go_wp2_with (first | ((with_reducible refine gate_callee (f := 67) rfl ?_); refine goesL_ (some 32) rfl rfl Tryz.func67 (by kernel_rfl) rfl #[.int .u8 (bt a0 x4_1)] rfl am ?_; (with_reducible refine (bulletinref12_Text.calls (bt a0 x4_1) false _ A22.out).mono ?_); rintro e w' ⟨rfl, ⟨nd, rfl⟩⟩; refine ⟨_, rfl, ?_⟩))
            go_roundg kj5
            case measure => have := HK1.out; have := HJ5.out; omega
            case rel => exact ⟨(x3_1 ++ (⟨#[32]⟩ : ByteArray)), (wrap64 (x4_1 + 1)), cl, cl, H', ⟨by have := HK1.out; have := HJ5.out; omega⟩, d0⟩
           rw [if_neg c25] at H; exact absurd H (by simp)
          rw [if_neg c20] at H; exact absurd H (by simp)
         rw [if_neg c19] at H; exact absurd H (by simp)
      rw [if_neg c5] at H; exact absurd H (by simp)
     rw [if_neg c4] at H; exact absurd H (by simp)
    rw [if_neg c3] at H; exact absurd H (by simp)
   rw [if_neg c2] at H; have c2b0 := decide_eq_false c2; clear c2
   by_cases c26 : 1 + x3_1.size ≤ 9223372036854775807
   ·rw [if_pos c26] at H; have c26b0 := eq_true c26; have c26b1 := decide_eq_true c26
    try have c26b2 : (9223372036854775807 < 1 + x3_1.size) = False := eq_false (Nat.not_lt.2 c26)
    by_cases c27 : ((⟨#[34]⟩ : ByteArray) ++ x3_1).size + 1 ≤ 9223372036854775807
    ·rw [if_pos c27] at H; have c27b0 := eq_true c27; have c27b1 := decide_eq_true c27
     try have c27b2 : (9223372036854775807 < ((⟨#[34]⟩ : ByteArray) ++ x3_1).size + 1) = False := eq_false (Nat.not_lt.2 c27)
     try (have c27b3 := c27; simp only [ByteArray.size_append, size_lit, ByteArray.size_extract, List.size_toArray, List.length_cons, List.length_nil, Nat.zero_add, Nat.reduceAdd] at c27b3; have c27b4 := eq_false (Nat.not_lt.2 c27b3))
     obtain rfl := Option.some.inj H
     go_wp2
     go_ret
     exact ⟨cl, d0⟩
    rw [if_neg c27] at H; exact absurd H (by simp)
   rw [if_neg c26] at H; exact absurd H (by simp)

end Go.Proofs.YtnnlhpmkfijppaaGreatDoor.Fn
namespace Go.Proofs.YtnnlhpmkfijppaaGreatDoor.Fn
open Go.RowKit Go.Proofs.YtnnlhpmkfijppaaGreatDoorW.PrintWords Go.Proofs.YtnnlhpmkfijppaaGreatDoorW.PrintLast Go.Proofs.YtnnlhpmkfijppaaGreatDoorW.PrintMore
attribute [local go_sem] max2_int min2_int max_two min_two max_three min_three max_four min_four
set_option linter.unusedVariables false
set_option linter.unusedSimpArgs false
def bulletinref13_Dotted.l0 : Nat → List ByteArray → Int → Option (Bool)
 | 0, _, _ => none
 | k + 1, x3, x4 => if x4 < (x3.length : Int) then (if 0 ≤ x4 then ((bulletinref12_IsAtom.f k (rdOf ByteArray.empty x3 x4)).bind fun t370 => (if t370 = true then (bulletinref13_Dotted.l0 k x3 (wrap64 (x4 + 1))) else (some false))) else (none)) else (some true)
def bulletinref13_Dotted.f (k : Nat) (a0 : ByteArray) : Option (Bool) := (bulletinref13_Split.f k a0 46).bind fun t366 => (bulletinref13_Dotted.l0 k t366 0)
set_option maxHeartbeats 8000000 in
set_option maxRecDepth 100000 in
theorem bulletinref13_Dotted.calls (k : Nat) (a0 : ByteArray) (r : Bool) (w : World) (h : bulletinref13_Dotted.f k a0 = some r) :
  Calls Tryz.prog 50 #[.string a0] w fun e w' => e = .returned (.bool r) ∧ Below w.heap.size w w' := by
 have HB := Aside0.mk (Below.refl w.heap.size w); have H : ((bulletinref13_Split.f k a0 46).bind fun t366 => (bulletinref13_Dotted.l0 k t366 0)) = some r := h; clear h; replace H := Option.bind_eq_some_iff.mp H; obtain ⟨t366, A20, H⟩ := H; have A2 := Aside0.mk A20; clear A20; have H' := Aside0.mk H; clear H
 go_enter Tryz.func50, Tryz.ntmps50
 go_wp2_with (first | ((with_reducible refine gate_callee (f := 70) rfl ?_); refine goesL_ (some 6) rfl rfl Tryz.func70 (by kernel_rfl) rfl #[.string a0, .int .u8 46] rfl am ?_; (with_reducible refine (bulletinref13_Split.calls k a0 46 t366 _ A2.out).mono ?_); rintro e w3 ⟨v367, rfl, ho0, hb⟩; refine ⟨_, rfl, ?_⟩; have n0_ := Aside0.mk (Kd.R_lower ho0 (below_size bw)); have n1_ := Aside0.mk (below_step bw hb); clear HB; have HO368 := n0_; have HB := n1_; clear n0_ n1_; (try clear hb); (try clear hb2); (try clear hk); (try clear hi); (try clear ho0)))
 go_loopg [4] k (fun kq v4 w' => ∃ (x4_1 : Int), v4 = .int .i64 x4_1 ∧ Aside0 (bulletinref13_Dotted.l0 kq t366 x4_1 = some r) ∧ Aside0 (kq ≤ k) ∧ Aside0 (Kd.R Kd.string 9 w' w.heap.size (fun _ => True) v367 t366) ∧ Aside0 (Below w.heap.size w w'))
 case atStart => exact ⟨(0), cl, H', ⟨Nat.le_refl _⟩, ⟨ra HO368.out⟩, ⟨bw⟩⟩
 case round =>
  clear H'
  try clear p2
  obtain ⟨x4_1, rfl, HA, HK1, HO_3, HB⟩ := hrel; cases gk with
  | zero => exact absurd HA.out (by simp [bulletinref13_Dotted.l0])
  | succ k1 =>
   have H := HA.out; clear HA; simp only [bulletinref13_Dotted.l0] at H
   by_cases c4 : x4_1 < (t366.length : Int)
   ·rw [if_pos c4] at H; have c4b0 := decide_eq_true c4; clear c4
    by_cases c5 : 0 ≤ x4_1
    ·rw [if_pos c5] at H; have c5b0 := decide_eq_true c5; clear c5; replace H := Option.bind_eq_some_iff.mp H; obtain ⟨t370, A60, H⟩ := H; have A6 := Aside0.mk A60; clear A60
     by_cases c7 : t370 = true
     ·subst c7; rw [if_pos rfl] at H; have H' := Aside0.mk H; clear H; obtain ⟨Ao8, co8, eo8⟩ := Kd.R_slice HO_3.out; subst eo8; have p369 : 0 ≤ (x4_1 : Int) := od; have q369 : x4_1 < (t366.length : Int) := od; obtain ⟨ad369, e369, hx369_0⟩ := Kd.at_string (Kd.R_reads' HO_3.out).2.2 x4_1 p369 q369; cases e369; replace p369 := eq_true p369; replace q369 := eq_true q369
      go_wp2_with (first | ((with_reducible refine gate_callee (f := 71) rfl ?_); refine goesL_ (some 17) rfl rfl Tryz.func71 (by kernel_rfl) rfl #[.string (rdOf ByteArray.empty t366 x4_1)] rfl am ?_; (with_reducible refine (bulletinref12_IsAtom.calls k1 (rdOf ByteArray.empty t366 x4_1) true _ A6.out).mono ?_); rintro e w' ⟨rfl, ⟨nd, rfl⟩⟩; refine ⟨_, rfl, ?_⟩))
      go_roundg k1
      case measure => have := HK1.out; omega
      case rel => exact ⟨(wrap64 (x4_1 + 1)), cl, H', ⟨by have := HK1.out; omega⟩, ⟨ra HO_3.out⟩, ⟨bw⟩⟩
     replace c7 := Bool.eq_false_iff.mpr c7; subst c7; rw [if_neg nft] at H; obtain rfl := Option.some.inj H; obtain ⟨Ao9, co9, eo9⟩ := Kd.R_slice HO_3.out; subst eo9; have p369 : 0 ≤ (x4_1 : Int) := od; have q369 : x4_1 < (t366.length : Int) := od; obtain ⟨ad369, e369, hx369_0⟩ := Kd.at_string (Kd.R_reads' HO_3.out).2.2 x4_1 p369 q369; cases e369; replace p369 := eq_true p369; replace q369 := eq_true q369
     go_wp2_with (first | ((with_reducible refine gate_callee (f := 71) rfl ?_); refine goesL_ (some 17) rfl rfl Tryz.func71 (by kernel_rfl) rfl #[.string (rdOf ByteArray.empty t366 x4_1)] rfl am ?_; (with_reducible refine (bulletinref12_IsAtom.calls k1 (rdOf ByteArray.empty t366 x4_1) false _ A6.out).mono ?_); rintro e w' ⟨rfl, ⟨nd, rfl⟩⟩; refine ⟨_, rfl, ?_⟩))
     go_ret
     exact ⟨ew, bw⟩
    rw [if_neg c5] at H; exact absurd H (by simp)
   rw [if_neg c4] at H; have c4b0 := decide_eq_false c4; clear c4; obtain rfl := Option.some.inj H; obtain ⟨Ao10, co10, eo10⟩ := Kd.R_slice HO_3.out; subst eo10
   go_wp2
   go_ret
   exact ⟨ew, bw⟩

def bulletinref13_Text.f (k : Nat) (a0_0 : ByteArray) (a0_1 : ByteArray) : Option (ByteArray) := (bulletinref13_Dotted.f k a0_0).bind fun t374 => (if t374 = true then (if a0_0.size + 1 ≤ 9223372036854775807 then (if (a0_0 ++ (⟨#[64]⟩ : ByteArray)).size + a0_1.size ≤ 9223372036854775807 then (some ((a0_0 ++ (⟨#[64]⟩ : ByteArray)) ++ a0_1)) else (none)) else (none)) else ((bulletinref12_Quote.f k a0_0).bind fun t375 => (if t375.size + 1 ≤ 9223372036854775807 then (if (t375 ++ (⟨#[64]⟩ : ByteArray)).size + a0_1.size ≤ 9223372036854775807 then (some ((t375 ++ (⟨#[64]⟩ : ByteArray)) ++ a0_1)) else (none)) else (none))))
set_option maxHeartbeats 8000000 in
set_option maxRecDepth 100000 in
theorem bulletinref13_Text.calls (k : Nat) (a0_0 : ByteArray) (a0_1 : ByteArray) (r : ByteArray) (w : World) (h : bulletinref13_Text.f k a0_0 a0_1 = some r) :
  Calls Tryz.prog 31 #[.agg #[.string a0_0, .string a0_1]] w fun e w' => e = .returned (.string r) ∧ Below w.heap.size w w' := by
 have hu23 := Tryz.underlying23; have HB := Aside0.mk (Below.refl w.heap.size w); have H : ((bulletinref13_Dotted.f k a0_0).bind fun t374 => (if t374 = true then (if a0_0.size + 1 ≤ 9223372036854775807 then (if (a0_0 ++ (⟨#[64]⟩ : ByteArray)).size + a0_1.size ≤ 9223372036854775807 then (some ((a0_0 ++ (⟨#[64]⟩ : ByteArray)) ++ a0_1)) else (none)) else (none)) else ((bulletinref12_Quote.f k a0_0).bind fun t375 => (if t375.size + 1 ≤ 9223372036854775807 then (if (t375 ++ (⟨#[64]⟩ : ByteArray)).size + a0_1.size ≤ 9223372036854775807 then (some ((t375 ++ (⟨#[64]⟩ : ByteArray)) ++ a0_1)) else (none)) else (none))))) = some r := h; clear h; replace H := Option.bind_eq_some_iff.mp H; obtain ⟨t374, A20, H⟩ := H; have A2 := Aside0.mk A20; clear A20
 by_cases c3 : t374 = true
 ·subst c3; rw [if_pos rfl] at H
  by_cases c4 : a0_0.size + 1 ≤ 9223372036854775807
  ·rw [if_pos c4] at H; have c4b0 := eq_true c4; have c4b1 := decide_eq_true c4
   try have c4b2 : (9223372036854775807 < a0_0.size + 1) = False := eq_false (Nat.not_lt.2 c4)
   by_cases c5 : (a0_0 ++ (⟨#[64]⟩ : ByteArray)).size + a0_1.size ≤ 9223372036854775807
   ·rw [if_pos c5] at H; have c5b0 := eq_true c5; have c5b1 := decide_eq_true c5
    try have c5b2 : (9223372036854775807 < (a0_0 ++ (⟨#[64]⟩ : ByteArray)).size + a0_1.size) = False := eq_false (Nat.not_lt.2 c5)
    try (have c5b3 := c5; simp only [ByteArray.size_append, size_lit, ByteArray.size_extract, List.size_toArray, List.length_cons, List.length_nil, Nat.zero_add, Nat.reduceAdd] at c5b3; have c5b4 := eq_false (Nat.not_lt.2 c5b3))
    obtain rfl := Option.some.inj H
    go_enter Tryz.func31, Tryz.ntmps31
    go_wp2_with (first | ((with_reducible refine gate_dst (N := 1) rfl ?_); refine box_event ?hg (N := 1) ?hd (cs := #[.string a0_0, .string a0_1]) (t := 23) ?hr ?_; (case hd => rfl); (case hg => rfl); (case hr => first | (go_simp; done) | (go_simp; rfl)); intro gb373 hg w6 hbox hb; have n0_ := Aside0.mk (below_step bw hb); have n1_ := Aside0.mk (hbox); have n2_ := Aside0.mk ((by rw [hg]; exact (below_size bw) : w.heap.size ≤ gb373)); have n3_ := Aside0.mk ((by rw [hg]; exact (below_size bw) : w.heap.size ≤ gb373)); clear HB; have HB := n0_; have BK373 := n1_; have GW373 := n2_; have GE373 := n3_; clear n0_ n1_ n2_ n3_; clear hb hbox hg; have hcz7_0 : w6.cell? ⟨gb373, 0, none⟩ = some (.string a0_0) := (blk_cell BK373.out 0).trans rfl; have hcz7_1 : w6.cell? ⟨gb373, 1, none⟩ = some (.string a0_1) := (blk_cell BK373.out 1).trans rfl; have hfz7_0 := blk_frozen BK373.out 0; have hfz7_1 := blk_frozen BK373.out 1) | (go_at_call 50; (with_reducible refine (bulletinref13_Dotted.calls k a0_0 true _ A2.out).mono ?_); rintro e w8 ⟨rfl, hb⟩; have n0_ := Aside0.mk (blk_below (g := gb373) (o := .cells #[.string a0_0, .string a0_1] 23 (0, 0)) bk hb); have n1_ := Aside0.mk (below_step bwS hb); clear BK373; clear HB; have BK373 := n0_; have HB := n1_; clear n0_ n1_; (try clear hb); (try clear hb2); (try clear hk); (try clear hi); have hcz9_0 : w8.cell? ⟨gb373, 0, none⟩ = some (.string a0_0) := (blk_cell BK373.out 0).trans rfl; have hcz9_1 : w8.cell? ⟨gb373, 1, none⟩ = some (.string a0_1) := (blk_cell BK373.out 1).trans rfl; have hfz9_0 := blk_frozen BK373.out 0; have hfz9_1 := blk_frozen BK373.out 1))
    repeat (go_quiet (first | ((with_reducible refine gate_dst (N := 1) rfl ?_); refine box_event ?hg (N := 1) ?hd (cs := #[.string a0_0, .string a0_1]) (t := 23) ?hr ?_; (case hd => rfl); (case hg => rfl); (case hr => first | (go_simp; done) | (go_simp; rfl)); intro gb373 hg w6 hbox hb; have n0_ := Aside0.mk (below_step bw hb); have n1_ := Aside0.mk (hbox); have n2_ := Aside0.mk ((by rw [hg]; exact (below_size bw) : w.heap.size ≤ gb373)); have n3_ := Aside0.mk ((by rw [hg]; exact (below_size bw) : w.heap.size ≤ gb373)); clear HB; have HB := n0_; have BK373 := n1_; have GW373 := n2_; have GE373 := n3_; clear n0_ n1_ n2_ n3_; clear hb hbox hg; have hcz7_0 : w6.cell? ⟨gb373, 0, none⟩ = some (.string a0_0) := (blk_cell BK373.out 0).trans rfl; have hcz7_1 : w6.cell? ⟨gb373, 1, none⟩ = some (.string a0_1) := (blk_cell BK373.out 1).trans rfl; have hfz7_0 := blk_frozen BK373.out 0; have hfz7_1 := blk_frozen BK373.out 1) | (go_at_call 50; (with_reducible refine (bulletinref13_Dotted.calls k a0_0 true _ A2.out).mono ?_); rintro e w8 ⟨rfl, hb⟩; have n0_ := Aside0.mk (blk_below (g := gb373) (o := .cells #[.string a0_0, .string a0_1] 23 (0, 0)) bk hb); have n1_ := Aside0.mk (below_step bwS hb); clear BK373; clear HB; have BK373 := n0_; have HB := n1_; clear n0_ n1_; (try clear hb); (try clear hb2); (try clear hk); (try clear hi); have hcz9_0 : w8.cell? ⟨gb373, 0, none⟩ = some (.string a0_0) := (blk_cell BK373.out 0).trans rfl; have hcz9_1 : w8.cell? ⟨gb373, 1, none⟩ = some (.string a0_1) := (blk_cell BK373.out 1).trans rfl; have hfz9_0 := blk_frozen BK373.out 0; have hfz9_1 := blk_frozen BK373.out 1)); try go_wp2_with (first | ((with_reducible refine gate_dst (N := 1) rfl ?_); refine box_event ?hg (N := 1) ?hd (cs := #[.string a0_0, .string a0_1]) (t := 23) ?hr ?_; (case hd => rfl); (case hg => rfl); (case hr => first | (go_simp; done) | (go_simp; rfl)); intro gb373 hg w6 hbox hb; have n0_ := Aside0.mk (below_step bw hb); have n1_ := Aside0.mk (hbox); have n2_ := Aside0.mk ((by rw [hg]; exact (below_size bw) : w.heap.size ≤ gb373)); have n3_ := Aside0.mk ((by rw [hg]; exact (below_size bw) : w.heap.size ≤ gb373)); clear HB; have HB := n0_; have BK373 := n1_; have GW373 := n2_; have GE373 := n3_; clear n0_ n1_ n2_ n3_; clear hb hbox hg; have hcz7_0 : w6.cell? ⟨gb373, 0, none⟩ = some (.string a0_0) := (blk_cell BK373.out 0).trans rfl; have hcz7_1 : w6.cell? ⟨gb373, 1, none⟩ = some (.string a0_1) := (blk_cell BK373.out 1).trans rfl; have hfz7_0 := blk_frozen BK373.out 0; have hfz7_1 := blk_frozen BK373.out 1) | (go_at_call 50; (with_reducible refine (bulletinref13_Dotted.calls k a0_0 true _ A2.out).mono ?_); rintro e w8 ⟨rfl, hb⟩; have n0_ := Aside0.mk (blk_below (g := gb373) (o := .cells #[.string a0_0, .string a0_1] 23 (0, 0)) bk hb); have n1_ := Aside0.mk (below_step bwS hb); clear BK373; clear HB; have BK373 := n0_; have HB := n1_; clear n0_ n1_; (try clear hb); (try clear hb2); (try clear hk); (try clear hi); have hcz9_0 : w8.cell? ⟨gb373, 0, none⟩ = some (.string a0_0) := (blk_cell BK373.out 0).trans rfl; have hcz9_1 : w8.cell? ⟨gb373, 1, none⟩ = some (.string a0_1) := (blk_cell BK373.out 1).trans rfl; have hfz9_0 := blk_frozen BK373.out 0; have hfz9_1 := blk_frozen BK373.out 1)))
    go_ret
    exact ⟨ew, bwS⟩
   rw [if_neg c5] at H; exact absurd H (by simp)
  rw [if_neg c4] at H; exact absurd H (by simp)
 replace c3 := Bool.eq_false_iff.mpr c3; subst c3; rw [if_neg nft] at H; replace H := Option.bind_eq_some_iff.mp H; obtain ⟨t375, A100, H⟩ := H; have A10 := Aside0.mk A100; clear A100
 by_cases c11 : t375.size + 1 ≤ 9223372036854775807
 ·rw [if_pos c11] at H; have c11b0 := eq_true c11; have c11b1 := decide_eq_true c11
  try have c11b2 : (9223372036854775807 < t375.size + 1) = False := eq_false (Nat.not_lt.2 c11)
  by_cases c12 : (t375 ++ (⟨#[64]⟩ : ByteArray)).size + a0_1.size ≤ 9223372036854775807
  ·rw [if_pos c12] at H; have c12b0 := eq_true c12; have c12b1 := decide_eq_true c12
   try have c12b2 : (9223372036854775807 < (t375 ++ (⟨#[64]⟩ : ByteArray)).size + a0_1.size) = False := eq_false (Nat.not_lt.2 c12)
   try (have c12b3 := c12; simp only [ByteArray.size_append, size_lit, ByteArray.size_extract, List.size_toArray, List.length_cons, List.length_nil, Nat.zero_add, Nat.reduceAdd] at c12b3; have c12b4 := eq_false (Nat.not_lt.2 c12b3))
   obtain rfl := Option.some.inj H
   go_enter Tryz.func31, Tryz.ntmps31
   go_wp2_with (first | ((with_reducible refine gate_dst (N := 1) rfl ?_); refine box_event ?hg (N := 1) ?hd (cs := #[.string a0_0, .string a0_1]) (t := 23) ?hr ?_; (case hd => rfl); (case hg => rfl); (case hr => first | (go_simp; done) | (go_simp; rfl)); intro gb373 hg w13 hbox hb; have n0_ := Aside0.mk (below_step bw hb); have n1_ := Aside0.mk (hbox); have n2_ := Aside0.mk ((by rw [hg]; exact (below_size bw) : w.heap.size ≤ gb373)); have n3_ := Aside0.mk ((by rw [hg]; exact (below_size bw) : w.heap.size ≤ gb373)); clear HB; have HB := n0_; have BK373 := n1_; have GW373 := n2_; have GE373 := n3_; clear n0_ n1_ n2_ n3_; clear hb hbox hg; have hcz14_0 : w13.cell? ⟨gb373, 0, none⟩ = some (.string a0_0) := (blk_cell BK373.out 0).trans rfl; have hcz14_1 : w13.cell? ⟨gb373, 1, none⟩ = some (.string a0_1) := (blk_cell BK373.out 1).trans rfl; have hfz14_0 := blk_frozen BK373.out 0; have hfz14_1 := blk_frozen BK373.out 1) | (go_at_call 50; (with_reducible refine (bulletinref13_Dotted.calls k a0_0 false _ A2.out).mono ?_); rintro e w15 ⟨rfl, hb⟩; have n0_ := Aside0.mk (blk_below (g := gb373) (o := .cells #[.string a0_0, .string a0_1] 23 (0, 0)) bk hb); have n1_ := Aside0.mk (below_step bwS hb); clear BK373; clear HB; have BK373 := n0_; have HB := n1_; clear n0_ n1_; (try clear hb); (try clear hb2); (try clear hk); (try clear hi); have hcz16_0 : w15.cell? ⟨gb373, 0, none⟩ = some (.string a0_0) := (blk_cell BK373.out 0).trans rfl; have hcz16_1 : w15.cell? ⟨gb373, 1, none⟩ = some (.string a0_1) := (blk_cell BK373.out 1).trans rfl; have hfz16_0 := blk_frozen BK373.out 0; have hfz16_1 := blk_frozen BK373.out 1) | (go_at_call 51; (with_reducible refine (bulletinref12_Quote.calls k a0_0 t375 _ A10.out).mono ?_); rintro e w' ⟨rfl, ⟨nd, rfl⟩⟩; (try first | exact ⟨rfl, _, World.drewN_drewN _ _ _⟩ | exact ⟨rfl, _, Eq.trans (World.drewN_drewN _ _ _) (congrArg (World.drewN _) (Nat.add_assoc _ _ _))⟩)))
   repeat (go_quiet (first | ((with_reducible refine gate_dst (N := 1) rfl ?_); refine box_event ?hg (N := 1) ?hd (cs := #[.string a0_0, .string a0_1]) (t := 23) ?hr ?_; (case hd => rfl); (case hg => rfl); (case hr => first | (go_simp; done) | (go_simp; rfl)); intro gb373 hg w13 hbox hb; have n0_ := Aside0.mk (below_step bw hb); have n1_ := Aside0.mk (hbox); have n2_ := Aside0.mk ((by rw [hg]; exact (below_size bw) : w.heap.size ≤ gb373)); have n3_ := Aside0.mk ((by rw [hg]; exact (below_size bw) : w.heap.size ≤ gb373)); clear HB; have HB := n0_; have BK373 := n1_; have GW373 := n2_; have GE373 := n3_; clear n0_ n1_ n2_ n3_; clear hb hbox hg; have hcz14_0 : w13.cell? ⟨gb373, 0, none⟩ = some (.string a0_0) := (blk_cell BK373.out 0).trans rfl; have hcz14_1 : w13.cell? ⟨gb373, 1, none⟩ = some (.string a0_1) := (blk_cell BK373.out 1).trans rfl; have hfz14_0 := blk_frozen BK373.out 0; have hfz14_1 := blk_frozen BK373.out 1) | (go_at_call 50; (with_reducible refine (bulletinref13_Dotted.calls k a0_0 false _ A2.out).mono ?_); rintro e w15 ⟨rfl, hb⟩; have n0_ := Aside0.mk (blk_below (g := gb373) (o := .cells #[.string a0_0, .string a0_1] 23 (0, 0)) bk hb); have n1_ := Aside0.mk (below_step bwS hb); clear BK373; clear HB; have BK373 := n0_; have HB := n1_; clear n0_ n1_; (try clear hb); (try clear hb2); (try clear hk); (try clear hi); have hcz16_0 : w15.cell? ⟨gb373, 0, none⟩ = some (.string a0_0) := (blk_cell BK373.out 0).trans rfl; have hcz16_1 : w15.cell? ⟨gb373, 1, none⟩ = some (.string a0_1) := (blk_cell BK373.out 1).trans rfl; have hfz16_0 := blk_frozen BK373.out 0; have hfz16_1 := blk_frozen BK373.out 1) | (go_at_call 51; (with_reducible refine (bulletinref12_Quote.calls k a0_0 t375 _ A10.out).mono ?_); rintro e w' ⟨rfl, ⟨nd, rfl⟩⟩; (try first | exact ⟨rfl, _, World.drewN_drewN _ _ _⟩ | exact ⟨rfl, _, Eq.trans (World.drewN_drewN _ _ _) (congrArg (World.drewN _) (Nat.add_assoc _ _ _))⟩))); try go_wp2_with (first | ((with_reducible refine gate_dst (N := 1) rfl ?_); refine box_event ?hg (N := 1) ?hd (cs := #[.string a0_0, .string a0_1]) (t := 23) ?hr ?_; (case hd => rfl); (case hg => rfl); (case hr => first | (go_simp; done) | (go_simp; rfl)); intro gb373 hg w13 hbox hb; have n0_ := Aside0.mk (below_step bw hb); have n1_ := Aside0.mk (hbox); have n2_ := Aside0.mk ((by rw [hg]; exact (below_size bw) : w.heap.size ≤ gb373)); have n3_ := Aside0.mk ((by rw [hg]; exact (below_size bw) : w.heap.size ≤ gb373)); clear HB; have HB := n0_; have BK373 := n1_; have GW373 := n2_; have GE373 := n3_; clear n0_ n1_ n2_ n3_; clear hb hbox hg; have hcz14_0 : w13.cell? ⟨gb373, 0, none⟩ = some (.string a0_0) := (blk_cell BK373.out 0).trans rfl; have hcz14_1 : w13.cell? ⟨gb373, 1, none⟩ = some (.string a0_1) := (blk_cell BK373.out 1).trans rfl; have hfz14_0 := blk_frozen BK373.out 0; have hfz14_1 := blk_frozen BK373.out 1) | (go_at_call 50; (with_reducible refine (bulletinref13_Dotted.calls k a0_0 false _ A2.out).mono ?_); rintro e w15 ⟨rfl, hb⟩; have n0_ := Aside0.mk (blk_below (g := gb373) (o := .cells #[.string a0_0, .string a0_1] 23 (0, 0)) bk hb); have n1_ := Aside0.mk (below_step bwS hb); clear BK373; clear HB; have BK373 := n0_; have HB := n1_; clear n0_ n1_; (try clear hb); (try clear hb2); (try clear hk); (try clear hi); have hcz16_0 : w15.cell? ⟨gb373, 0, none⟩ = some (.string a0_0) := (blk_cell BK373.out 0).trans rfl; have hcz16_1 : w15.cell? ⟨gb373, 1, none⟩ = some (.string a0_1) := (blk_cell BK373.out 1).trans rfl; have hfz16_0 := blk_frozen BK373.out 0; have hfz16_1 := blk_frozen BK373.out 1) | (go_at_call 51; (with_reducible refine (bulletinref12_Quote.calls k a0_0 t375 _ A10.out).mono ?_); rintro e w' ⟨rfl, ⟨nd, rfl⟩⟩; (try first | exact ⟨rfl, _, World.drewN_drewN _ _ _⟩ | exact ⟨rfl, _, Eq.trans (World.drewN_drewN _ _ _) (congrArg (World.drewN _) (Nat.add_assoc _ _ _))⟩))))
   go_ret
   exact ⟨ew, bwS⟩
  rw [if_neg c12] at H; exact absurd H (by simp)
 rw [if_neg c11] at H; exact absurd H (by simp)

end Go.Proofs.YtnnlhpmkfijppaaGreatDoor.Fn
namespace Go.Proofs.YtnnlhpmkfijppaaGreatDoor.Fn
open Go.RowKit Go.Proofs.YtnnlhpmkfijppaaGreatDoorW.PrintWords Go.Proofs.YtnnlhpmkfijppaaGreatDoorW.PrintLast Go.Proofs.YtnnlhpmkfijppaaGreatDoorW.PrintMore
attribute [local go_sem] max2_int min2_int max_two min_two max_three min_three max_four min_four
set_option linter.unusedVariables false
set_option linter.unusedSimpArgs false

mutual
def bulletinref13_Why.j0 : Nat → Int → Bool → ByteArray → ByteArray → Option (Int)
 | 0, _, _, _, _ => none
 | k + 1, x4, x18, x387000, x387001 => if x18 = true then (some 130) else (bulletinref13_Why.l0 k x4 0 x387000 x387001)
def bulletinref13_Why.l0 : Nat → Int → Int → ByteArray → ByteArray → Option (Int)
 | 0, _, _, _, _ => none
 | k + 1, x4, x5, x387000, x387001 => if x5 < (x387000.size : Int) then (if 0 ≤ x5 then (if (bt x387000 x5) < 32 then (some 130) else (if (bt x387000 x5) > 126 then (some 130) else (bulletinref13_Why.l0 k x4 (wrap64 (x5 + 1)) x387000 x387001))) else (none)) else (if x4 = 0 then (if (x387000.size : Int) > 64 then (some 2) else ((bulletinref13_Text.f k x387000 x387001).bind fun t389 => (if (t389.size : Int) > 254 then (some 2) else (some 0)))) else (some 2))
end
def bulletinref13_Why.f (k : Nat) (a0_0 : ByteArray) (a0_1 : ByteArray) : Option (Int) := (bulletinref13_Domain.f k a0_1).bind fun bt387 => (if bt387.2 = 130 then (bulletinref13_Why.j0 k bt387.2 true a0_0 a0_1) else (bulletinref13_Why.j0 k bt387.2 (a0_0.toList == ([] : List UInt8)) a0_0 a0_1))
set_option maxHeartbeats 8000000 in
set_option maxRecDepth 100000 in
theorem bulletinref13_Why.calls (k : Nat) (a0_0 : ByteArray) (a0_1 : ByteArray) (r : Int) (w : World) (h : bulletinref13_Why.f k a0_0 a0_1 = some r) :
  Calls Tryz.prog 61 #[.agg #[.string a0_0, .string a0_1]] w fun e w' => e = .returned (.int .i64 r) ∧ Below w.heap.size w w' := by
 have hu23 := Tryz.underlying23; have HB := Aside0.mk (Below.refl w.heap.size w); have H : ((bulletinref13_Domain.f k a0_1).bind fun bt387 => (if bt387.2 = 130 then (bulletinref13_Why.j0 k bt387.2 true a0_0 a0_1) else (bulletinref13_Why.j0 k bt387.2 (a0_0.toList == ([] : List UInt8)) a0_0 a0_1))) = some r := h; clear h; replace H := Option.bind_eq_some_iff.mp H; obtain ⟨⟨t387, t388⟩, A20, H⟩ := H; replace H : (if t388 = 130 then (bulletinref13_Why.j0 k t388 true a0_0 a0_1) else (bulletinref13_Why.j0 k t388 (a0_0.toList == ([] : List UInt8)) a0_0 a0_1)) = some r := H; have A2 := Aside0.mk A20; clear A20; have HC3 := Aside0.mk H; clear H
 go_enter Tryz.func61, Tryz.ntmps61
 go_upto_region 2 with (first | ((with_reducible refine gate_dst (N := 1) rfl ?_); (try (refine gate_guard (by rfl) ?_; dsimp only)); refine box_event ?hg (N := 1) ?hd (cs := #[.string a0_0, .string a0_1]) (t := 23) ?hr ?_; (case hd => rfl); (case hg => rfl); (case hr => first | (go_simp; done) | (go_simp; rfl)); intro gb386 hg w4 hbox hb; have n0_ := Aside0.mk (below_step bw hb); have n1_ := Aside0.mk (hbox); have n2_ := Aside0.mk ((by rw [hg]; exact (below_size bw) : w.heap.size ≤ gb386)); have n3_ := Aside0.mk ((by rw [hg]; exact (below_size bw) : w.heap.size ≤ gb386)); clear HB; have HB := n0_; have BK386 := n1_; have GW386 := n2_; have GE386 := n3_; clear n0_ n1_ n2_ n3_; clear hb hbox hg; have hcz5_0 : w4.cell? ⟨gb386, 0, none⟩ = some (.string a0_0) := (blk_cell BK386.out 0).trans rfl; have hcz5_1 : w4.cell? ⟨gb386, 1, none⟩ = some (.string a0_1) := (blk_cell BK386.out 1).trans rfl; have hfz5_0 := blk_frozen BK386.out 0; have hfz5_1 := blk_frozen BK386.out 1) | ((with_reducible refine gate_callee (f := 81) rfl ?_); refine goesL_ (some 9) rfl rfl Tryz.func81 (by kernel_rfl) rfl #[.string a0_1] rfl am ?_; (with_reducible refine (bulletinref13_Domain.calls k a0_1 t387 t388 _ A2.out).mono ?_); rintro e w6 ⟨rfl, hb⟩; refine ⟨_, rfl, ?_⟩; have n0_ := Aside0.mk (blk_below (g := gb386) (o := .cells #[.string a0_0, .string a0_1] 23 (0, 0)) bk hb); have n1_ := Aside0.mk (below_step bwS hb); clear BK386; clear HB; have BK386 := n0_; have HB := n1_; clear n0_ n1_; (try clear hb); (try clear hb2); (try clear hk); (try clear hi)))
 (try simp only [Act.put, List.setIfInBounds_toArray, List.set_cons_zero, List.set_cons_succ])
 go_cut [18] (fun v18 wc => ∃ (kq : Nat) (x18_2 : Bool), v18 = .bool x18_2 ∧ Aside0 (bulletinref13_Why.j0 kq t388 x18_2 a0_0 a0_1 = some r) ∧ Aside0 (kq ≤ k) ∧ Aside0 (wc.heap[gb386]? = some (.cells #[.string a0_0, .string a0_1] 23 (0, 0))) ∧ Aside0 (Below w.heap.size w wc))
 case first =>
  have H := HC3.out; clear HC3
  by_cases c7 : t388 = 130
  ·rw [if_pos c7] at H; have c7b0 := beq_iff_eq.mpr c7; have c7b1 := bne_eq_false_iff_eq.mpr c7; clear c7
   (first | rw [c7b0] | (simp only [i64_w, i32_w]; rw [c7b0]) | skip)
   have H' := Aside0.mk H; clear H
   go_wp2
   go_meet
   case rel => exact ⟨_, (true), cl, H', ⟨by first | omega | exact Nat.le_refl _⟩, ⟨bk⟩, ⟨bwS⟩⟩
  rw [if_neg c7] at H; have c7b0 := beq_eq_false_iff_ne.mpr c7; have c7b1 := bne_iff_ne.mpr c7
  (first | rw [c7b0] | (simp only [i64_w, i32_w]; rw [c7b0]) | skip)
  have H' := Aside0.mk H; clear H; obtain ⟨hcz8_0, hcz8_1, hfz8_0, hfz8_1⟩ := bk2 BK386.out
  go_wp2
  go_meet
  case rel => exact ⟨_, ((a0_0.toList == ([] : List UInt8))), cl, H', ⟨by first | omega | exact Nat.le_refl _⟩, ⟨bk⟩, ⟨bwS⟩⟩
 case rest =>
  clear HC3
  try clear p2
  try clear c6
  try clear c7
  try clear c7b0
  try clear c7b1
  try clear c8
  try clear hcz5_0
  try clear hcz5_1
  try clear hcz8_0
  try clear hcz8_1
  try clear hfz5_0
  try clear hfz5_1
  try clear hfz8_0
  try clear hfz8_1
  obtain ⟨kq, x18_2, rfl, HA, HJ2, BK386, HB⟩ := hcut; cases kq with
  | zero => exact absurd HA.out (by simp [bulletinref13_Why.j0])
  | succ kj2 =>
   have H := HA.out; clear HA; simp only [bulletinref13_Why.j0] at H
   by_cases c9 : x18_2 = true
   ·subst c9; rw [if_pos rfl] at H; obtain rfl := Option.some.inj H
    go_wp2
    go_ret
    exact ⟨ew, bwS⟩
   replace c9 := Bool.eq_false_iff.mpr c9; subst c9; rw [if_neg nft] at H; have H' := Aside0.mk H; clear H
   go_wp2
   go_loopg [5] kj2 (fun kq v5 w' => ∃ (x5_2 : Int), v5 = .int .i64 x5_2 ∧ Aside0 (bulletinref13_Why.l0 kq t388 x5_2 a0_0 a0_1 = some r) ∧ Aside0 (kq ≤ kj2) ∧ Aside0 (w'.heap[gb386]? = some (.cells #[.string a0_0, .string a0_1] 23 (0, 0))) ∧ Aside0 (Below w.heap.size w w'))
   case atStart => exact ⟨(0), cl, H', ⟨Nat.le_refl _⟩, ⟨bk⟩, ⟨bwS⟩⟩
   case round =>
    clear H'
    try clear p2
    try clear c6
    try clear c7
    try clear c7b0
    try clear c7b1
    try clear c8
    try clear c9
    try clear hcz5_0
    try clear hcz5_1
    try clear hcz8_0
    try clear hcz8_1
    try clear hfz5_0
    try clear hfz5_1
    try clear hfz8_0
    try clear hfz8_1
    try clear p2
    obtain ⟨x5_2, rfl, HA, HK2, BK386, HB⟩ := hrel; cases gk with
    | zero => exact absurd HA.out (by simp [bulletinref13_Why.l0])
    | succ k2 =>
     have H := HA.out; clear HA; simp only [bulletinref13_Why.l0] at H
     by_cases c10 : x5_2 < (a0_0.size : Int)
     ·rw [if_pos c10] at H; have c10b0 := decide_eq_true c10; clear c10
      by_cases c11 : 0 ≤ x5_2
      ·rw [if_pos c11] at H; have c11b0 := decide_eq_true c11; clear c11
       by_cases c13 : (bt a0_0 x5_2) < 32
       ·rw [if_pos c13] at H; have c13b0 := decide_eq_true c13; clear c13; obtain rfl := Option.some.inj H; obtain ⟨hcz14_0, hcz14_1, hfz14_0, hfz14_1⟩ := bk2 BK386.out; have p12 : 0 ≤ (x5_2 : Int) := od; have q12 : x5_2 < (a0_0.size : Int) := od; have hx12 := bt_at a0_0 x5_2; replace p12 := eq_true p12; replace q12 := eq_true q12
        go_wp2
        go_ret
        exact ⟨ew, bwS⟩
       rw [if_neg c13] at H; have c13b0 := decide_eq_false c13; clear c13
       by_cases c16 : (bt a0_0 x5_2) > 126
       ·rw [if_pos c16] at H; have c16b0 : decide (126 < (bt a0_0 x5_2)) = true := decide_eq_true c16; clear c16; obtain rfl := Option.some.inj H; obtain ⟨hcz17_0, hcz17_1, hfz17_0, hfz17_1⟩ := bk2 BK386.out; have p12 : 0 ≤ (x5_2 : Int) := od; have q12 : x5_2 < (a0_0.size : Int) := od; have hx12 := bt_at a0_0 x5_2; replace p12 := eq_true p12; replace q12 := eq_true q12; have p15 : 0 ≤ (x5_2 : Int) := od; have q15 : x5_2 < (a0_0.size : Int) := od; have hx15 := bt_at a0_0 x5_2; replace p15 := eq_true p15; replace q15 := eq_true q15
        go_wp2
        go_ret
        exact ⟨ew, bwS⟩
       rw [if_neg c16] at H; have c16b0 : decide (126 < (bt a0_0 x5_2)) = false := decide_eq_false c16; clear c16; have H' := Aside0.mk H; clear H; obtain ⟨hcz18_0, hcz18_1, hfz18_0, hfz18_1⟩ := bk2 BK386.out; have p12 : 0 ≤ (x5_2 : Int) := od; have q12 : x5_2 < (a0_0.size : Int) := od; have hx12 := bt_at a0_0 x5_2; replace p12 := eq_true p12; replace q12 := eq_true q12; have p15 : 0 ≤ (x5_2 : Int) := od; have q15 : x5_2 < (a0_0.size : Int) := od; have hx15 := bt_at a0_0 x5_2; replace p15 := eq_true p15; replace q15 := eq_true q15
       go_wp2
       go_roundg k2
       case measure => have := HJ2.out; have := HK2.out; omega
       case rel => exact ⟨(wrap64 (x5_2 + 1)), cl, H', ⟨by have := HJ2.out; have := HK2.out; omega⟩, ⟨bk⟩, ⟨bwS⟩⟩
      rw [if_neg c11] at H; exact absurd H (by simp)
     rw [if_neg c10] at H; have c10b0 := decide_eq_false c10; clear c10
     by_cases c19 : t388 = 0
     ·rw [if_pos c19] at H; have c19b0 := beq_iff_eq.mpr c19; have c19b1 := bne_eq_false_iff_eq.mpr c19; clear c19
      by_cases c20 : (a0_0.size : Int) > 64
      ·rw [if_pos c20] at H; have c20b0 : decide (64 < (a0_0.size : Int)) = true := decide_eq_true c20; have c20b1 : decide (64 < a0_0.size) = true := decide_eq_true (by omega); clear c20; obtain rfl := Option.some.inj H; obtain ⟨hcz21_0, hcz21_1, hfz21_0, hfz21_1⟩ := bk2 BK386.out
       go_wp2
       go_ret
       exact ⟨ew, bwS⟩
      rw [if_neg c20] at H; have c20b0 : decide (64 < (a0_0.size : Int)) = false := decide_eq_false c20; have c20b1 : decide (64 < a0_0.size) = false := decide_eq_false (by omega); clear c20; replace H := Option.bind_eq_some_iff.mp H; obtain ⟨t389, A220, H⟩ := H; have A22 := Aside0.mk A220; clear A220
      by_cases c23 : (t389.size : Int) > 254
      ·rw [if_pos c23] at H; have c23b0 : decide (254 < (t389.size : Int)) = true := decide_eq_true c23; have c23b1 : decide (254 < t389.size) = true := decide_eq_true (by omega); clear c23; obtain rfl := Option.some.inj H; obtain ⟨hcz24_0, hcz24_1, hfz24_0, hfz24_1⟩ := bk2 BK386.out
       go_wp2_with (first | (go_at_call 31; (with_reducible refine (bulletinref13_Text.calls k2 a0_0 a0_1 t389 _ A22.out).mono ?_); rintro e w25 ⟨rfl, hb⟩; have n0_ := Aside0.mk (blk_below (g := gb386) (o := .cells #[.string a0_0, .string a0_1] 23 (0, 0)) bk hb); have n1_ := Aside0.mk (below_step bwS hb); clear BK386; clear HB; have BK386 := n0_; have HB := n1_; clear n0_ n1_; (try clear hb); (try clear hb2); (try clear hk); (try clear hi)))
       go_ret
       exact ⟨ew, bwS⟩
      rw [if_neg c23] at H; have c23b0 : decide (254 < (t389.size : Int)) = false := decide_eq_false c23; have c23b1 : decide (254 < t389.size) = false := decide_eq_false (by omega); clear c23; obtain rfl := Option.some.inj H; obtain ⟨hcz26_0, hcz26_1, hfz26_0, hfz26_1⟩ := bk2 BK386.out
      go_wp2_with (first | (go_at_call 31; (with_reducible refine (bulletinref13_Text.calls k2 a0_0 a0_1 t389 _ A22.out).mono ?_); rintro e w27 ⟨rfl, hb⟩; have n0_ := Aside0.mk (blk_below (g := gb386) (o := .cells #[.string a0_0, .string a0_1] 23 (0, 0)) bk hb); have n1_ := Aside0.mk (below_step bwS hb); clear BK386; clear HB; have BK386 := n0_; have HB := n1_; clear n0_ n1_; (try clear hb); (try clear hb2); (try clear hk); (try clear hi)))
      go_ret
      exact ⟨ew, bwS⟩
     rw [if_neg c19] at H; have c19b0 := beq_eq_false_iff_ne.mpr c19; have c19b1 := bne_iff_ne.mpr c19; obtain rfl := Option.some.inj H; obtain ⟨hcz28_0, hcz28_1, hfz28_0, hfz28_1⟩ := bk2 BK386.out
     go_wp2
     go_ret
     exact ⟨ew, bwS⟩

end Go.Proofs.YtnnlhpmkfijppaaGreatDoor.Fn
set_option linter.unusedVariables false
namespace Go.Proofs.YtnnlhpmkfijppaaGreatDoor.Pl
open Go.RowKit Go.Proofs.YtnnlhpmkfijppaaGreatDoorW.PrintWords Go.Proofs.YtnnlhpmkfijppaaGreatDoor.Fn

/-! Capital letters, dots, quotes and the sign @. -/
theorem forall_byte {p : UInt8 → Prop} [DecidablePred p] (h : ∀ i : Fin 256, p (UInt8.ofNat i.val)) (c : UInt8) : p c := by
 have := h ⟨c.toNat, c.toNat_lt⟩
 simpa using this
def plainB (c : UInt8) : Bool := decide (32 ≤ c.toNat) && decide (c.toNat ≤ 126)
/-! plain: of all bytes -/
theorem plainFrom_bytes (s : ByteArray) : ∀ (f pos : Nat), s.size ≤ pos + f → pos ≤ s.size → plainFrom s f pos = ((bs s).drop pos).all plainB := by
 intro f
 induction f with
 | zero =>
  intro pos h1 h2
  rw [plainFrom, List.drop_of_length_le (by rw [bs_length]; omega)]
  rfl
 | succ f ih =>
  intro pos h1 h2
  rw [plainFrom]
  by_cases hp : pos < s.size
  ·rw [if_pos hp]
   have hl : pos < (bs s).length := by rw [bs_length]; exact hp
   have hd : (bs s).drop pos = (bs s)[pos] :: (bs s).drop (pos + 1) := List.drop_eq_getElem_cons hl
   rw [hd, List.all_cons]
   have hg : s.get! pos = (bs s)[pos] := by
    simp [ByteArray.get!, getElem!_pos, hp, bs]
   by_cases hb : (bs s)[pos].toNat < 128
   ·have hdec : Utf8.decode s pos = ((bs s)[pos].toNat, 1) := by
     rw [Lib.decode_at, hg]
     unfold Lib.decodeN
     rw [if_pos hb]
    rw [hdec]
    by_cases hpl : plainB (bs s)[pos] = true
    ·rw [if_pos (by exact hpl), ih (pos + 1) (by omega) (by omega), hpl, Bool.true_and]
    rw [if_neg (by exact hpl)]
    rw [Bool.not_eq_true] at hpl
    rw [hpl, Bool.false_and]
   have hdec : 128 ≤ (Utf8.decode s pos).1 := by
    rw [Lib.decode_at, hg]
    unfold Lib.decodeN
    rw [if_neg hb]
    have := (bs s)[pos].toNat_lt
    repeat' split
    all_goals (first | omega | (simp only []; omega))
   rw [if_neg (by unfold plainR; simp; omega)]
   have : plainB (bs s)[pos] = false := by unfold plainB; simp; omega
   rw [this, Bool.false_and]
  rw [if_neg hp, List.drop_of_length_le (by rw [bs_length]; omega)]
  rfl
theorem plain_L (s : ByteArray) : plain s = (bs s).all plainB := by
 unfold plain
 rw [plainFrom_bytes s s.size 0 (by omega) (by omega), List.drop_zero]
end Go.Proofs.YtnnlhpmkfijppaaGreatDoor.Pl
set_option linter.unusedVariables false
namespace Go.Proofs.YtnnlhpmkfijppaaGreatDoor.Pl
open Go.RowKit Go.Proofs.YtnnlhpmkfijppaaGreatDoorW.PrintWords Go.Proofs.YtnnlhpmkfijppaaGreatDoor.Fn

/-! Layer 13, the document's, over lists of bytes: it answers as the program does. -/
theorem rdS_drop {l : List Bytes} {i : Nat} {x : Bytes} {r : List Bytes} (h : l.drop i = x :: r) : rdOf ByteArray.empty (l.map str) (i : Int) = str x := by
 have h1 : l[i]? = some x := by
  have := congrArg List.head? h
  rw [List.head?_drop] at this
  exact this
 unfold rdOf
 rw [List.getD_eq_getElem?_getD, List.getElem?_map]
 simp [h1]
theorem dropS_lt {α : Type} {l : List α} {i : Nat} {x : α} {r : List α} (h : l.drop i = x :: r) : i < l.length ∧ l.drop (i + 1) = r := by
 have h1 : i < l.length := by
  rcases Nat.lt_or_ge i l.length with h' | h'
  ·exact h'
  rw [List.drop_of_length_le h'] at h; cases h
 refine ⟨h1, ?_⟩
 rw [← List.drop_drop, h]
 rfl
def headJoin (w : Bytes) : List Bytes → List Bytes
 | [] => [w]
 | p :: ps => (w ++ p) :: ps
theorem headJoin_nil (l : List Bytes) (h : l ≠ []) : headJoin [] l = l := by
 cases l with
 | nil => exact absurd rfl h
 | cons p ps => rfl
theorem headJoin_step (c x : UInt8) (w rest : Bytes) (hx : ¬ x = c) : headJoin w (splitL c (x :: rest)) = headJoin (w ++ [x]) (splitL c rest) := by
 have h := splitL_ne c rest
 rw [splitL, if_neg hx]
 cases hs : splitL c rest with
 | nil => exact absurd hs h
 | cons p ps => simp [headJoin]
theorem refSplit_l0 (s : ByteArray) (hs : s.size ≤ 1000000000) (c : UInt8) : ∀ (rest : Bytes) (i k : Nat) (acc : List Bytes) (w : Bytes), (bs s).drop i = rest → i ≤ (bs s).length → rest.length + 1 ≤ k → acc.length ≤ i → w.length ≤ i →
  bulletinref13_Split.l0 k s (c.toNat : Int) (acc.map str) (str w) (i : Int) = some ((acc ++ headJoin w (splitL c rest)).map str)
 | [], i, k, acc, w, hd, hi, hk, ha, hw => by
  obtain ⟨k, rfl⟩ : ∃ j, k = j + 1 := ⟨k - 1, by omega⟩
  have := drop_nil hd
  rw [bs_length] at this hi
  rw [bulletinref13_Split.l0, if_neg (by omega), if_pos (by rw [List.length_map]; omega)]
  simp [splitL, headJoin]
 | x :: rest, i, k, acc, w, hd, hi, hk, ha, hw => by
  obtain ⟨k, rfl⟩ : ∃ j, k = j + 1 := ⟨k - 1, by omega⟩
  obtain ⟨h1, h2, h3, h4⟩ := drop_cons hd
  have h5 : i < s.size := by rw [bs_length] at h1; exact h1
  simp only [List.length_cons] at hk
  have e : ((x.toNat : Int) = (c.toNat : Int)) = (x = c) := propext ⟨fun q => UInt8.toNat_inj.1 (by omega), fun q => by rw [q]⟩
  rw [bulletinref13_Split.l0, if_pos (by omega), if_pos (by omega), bt_drop hd]
  by_cases hx : x = c
  ·rw [if_pos (by rw [e]; exact hx), if_pos (by rw [List.length_map]; omega), wrap_succ i (by omega)]
   rw [show acc.map str ++ [str w] = (acc ++ [w]).map str by simp, show (⟨#[]⟩ : ByteArray) = str [] from rfl]
   rw [refSplit_l0 s hs c rest (i + 1) k (acc ++ [w]) [] h3 (by omega) (by omega) (by simp; omega) (by simp)]
   rw [headJoin_nil _ (splitL_ne c rest), splitL, if_pos hx]
   simp [headJoin]
  rw [if_neg (by rw [e]; exact hx), wrap_succ i (by omega), if_pos (by omega), if_pos (by omega)]
  simp only [Int.toNat_natCast]
  rw [extract_one hd, str_app, if_pos (by rw [str_size, str_size]; simp; omega)]
  rw [refSplit_l0 s hs c rest (i + 1) k acc (w ++ [x]) h3 (by omega) (by omega) (by omega) (by simp; omega)]
  rw [headJoin_step c x w rest hx]
theorem refSplit_is (s : ByteArray) (hs : s.size ≤ 1000000000) (k : Nat) (hk : s.size + 1 ≤ k) : bulletinref13_Split.f k s 46 = some ((splitL 46 (bs s)).map str) := by
 have := refSplit_l0 s hs 46 (bs s) 0 k [] [] (by simp) (by omega) (by rw [bs_length]; omega) (by simp) (by simp)
 rw [headJoin_nil _ (splitL_ne _ _)] at this
 unfold bulletinref13_Split.f
 exact this
theorem splitL_length (c : UInt8) : ∀ l : Bytes, (splitL c l).length ≤ l.length + 1
 | [] => by simp [splitL]
 | x :: l => by
  have ih := splitL_length c l
  have hne := splitL_ne c l
  rw [splitL]
  split
  ·simp; omega
  cases h : splitL c l with
  | nil => exact absurd h hne
  | cons w r => rw [h] at ih; simp at ih ⊢; omega
theorem splitL_mem_length (c : UInt8) : ∀ (l w : Bytes), w ∈ splitL c l → w.length ≤ l.length
 | [], w, h => by simp [splitL] at h; simp [h]
 | x :: l, w, h => by
  have hne := splitL_ne c l
  rw [splitL] at h
  split at h
  ·rcases List.mem_cons.1 h with q | q
   ·rw [q]; simp
   have := splitL_mem_length c l w q; simp; omega
  cases hs : splitL c l with
  | nil => exact absurd hs hne
  | cons p r =>
   rw [hs] at h
   rcases List.mem_cons.1 h with q | q
   ·have := splitL_mem_length c l p (by rw [hs]; simp); rw [q]; simp; omega
   have := splitL_mem_length c l w (by rw [hs]; simp [q]); simp; omega

/-! IsAtom -/
set_option maxRecDepth 100000 in
theorem refatomic_at (c : UInt8) : bulletinref12_atomic.f 20 (c.toNat : Int) = some (atomic c) := forall_byte (p := fun c => bulletinref12_atomic.f 20 (c.toNat : Int) = some (atomic c)) (by decide +kernel) c
theorem refatomic_is (c : UInt8) (k : Nat) (hk : 20 ≤ k) : bulletinref12_atomic.f k (c.toNat : Int) = some (atomic c) := mono_up (fun k => bulletinref12_atomic.mono _ k) (refatomic_at c) k hk
theorem refIsAtom_l0 (s : ByteArray) (hs : s.size ≤ 1000000000) : ∀ (rest : Bytes) (i k : Nat), (bs s).drop i = rest → i ≤ (bs s).length → rest.length + 1 + 20 ≤ k →
  bulletinref12_IsAtom.l0 k s (i : Int) = some (rest.all atomic)
 | [], i, k, hd, hi, hk => by
  obtain ⟨k, rfl⟩ : ∃ j, k = j + 1 := ⟨k - 1, by omega⟩
  have := drop_nil hd
  rw [bs_length] at this hi
  rw [bulletinref12_IsAtom.l0, if_neg (by omega)]
  rfl
 | c :: rest, i, k, hd, hi, hk => by
  obtain ⟨k, rfl⟩ : ∃ j, k = j + 1 := ⟨k - 1, by omega⟩
  obtain ⟨h1, h2, h3, h4⟩ := drop_cons hd
  have h5 : i < s.size := by rw [bs_length] at h1; exact h1
  simp only [List.length_cons] at hk
  rw [bulletinref12_IsAtom.l0, if_pos (by omega), if_pos (by omega), bt_drop hd, refatomic_is c k (by omega), Option.bind_some]
  cases ha : atomic c with
  | true => rw [if_pos rfl, wrap_succ i (by omega), refIsAtom_l0 s hs rest (i + 1) k h3 (by omega) (by omega)]; simp [ha]
  | false => rw [if_neg (by simp)]; simp [ha]
theorem refIsAtom_is (s : ByteArray) (hs : s.size ≤ 1000000000) (k : Nat) (hk : s.size + 1 + 20 ≤ k) : bulletinref12_IsAtom.f k s = some (atomL (bs s)) := by
 unfold bulletinref12_IsAtom.f atomL
 rw [toList_bs]
 cases h : bs s with
 | nil => rw [if_pos rfl]; rfl
 | cons c r =>
  rw [if_neg (by simp)]
  have := refIsAtom_l0 s hs (bs s) 0 k (by simp) (by omega) (by rw [bs_length]; omega)
  rw [h] at this
  rw [show (0 : Int) = ((0 : Nat) : Int) from rfl, this]
  simp
theorem refDotted_l0 (l : List Bytes) (hl : l.length ≤ 1000000000) (m : Nat) (hm : m ≤ 1000000000) (hw : ∀ w ∈ l, w.length ≤ m) : ∀ (rest : List Bytes) (i k : Nat), l.drop i = rest → i ≤ l.length → rest.length + m + 30 ≤ k →
  bulletinref13_Dotted.l0 k (l.map str) (i : Int) = some (rest.all atomL)
 | [], i, k, hd, hi, hk => by
  obtain ⟨k, rfl⟩ : ∃ j, k = j + 1 := ⟨k - 1, by omega⟩
  have : l.length ≤ i := by have := congrArg List.length hd; simp at this; omega
  rw [bulletinref13_Dotted.l0, if_neg (by rw [List.length_map]; omega)]
  rfl
 | x :: rest, i, k, hd, hi, hk => by
  obtain ⟨k, rfl⟩ : ∃ j, k = j + 1 := ⟨k - 1, by omega⟩
  obtain ⟨h1, h2⟩ := dropS_lt hd
  have hx := hw x (List.mem_of_mem_drop (i := i) (by rw [hd]; simp))
  simp only [List.length_cons] at hk
  rw [bulletinref13_Dotted.l0, if_pos (by rw [List.length_map]; omega), if_pos (by omega), rdS_drop hd, refIsAtom_is (str x) (by rw [str_size]; omega) k (by rw [str_size]; omega), bs_str, Option.bind_some]
  cases ha : atomL x with
  | true => rw [if_pos rfl, wrap_succ i (by omega), refDotted_l0 l hl m hm hw rest (i + 1) k h2 (by omega) (by omega)]; simp [ha]
  | false => rw [if_neg (by simp)]; simp [ha]
theorem refDotted_is (s : ByteArray) (hs : s.size ≤ 1000000) (k : Nat) (hk : 2 * s.size + 40 ≤ k) : bulletinref13_Dotted.f k s = some (dottedL (bs s)) := by
 unfold bulletinref13_Dotted.f dottedL
 have hl := splitL_length 46 (bs s)
 rw [bs_length] at hl
 rw [refSplit_is s (by omega) k (by omega), Option.bind_some]
 exact refDotted_l0 _ (by omega) s.size (by omega) (fun w hw => by have := splitL_mem_length 46 _ _ hw; rw [bs_length] at this; exact this) _ 0 k (by simp) (by omega) (by omega)

/-! Quote -/
set_option maxRecDepth 100000 in
theorem reftext_is (c : UInt8) : bulletinref12_Text.f (c.toNat : Int) = some (text c) := forall_byte (p := fun c => bulletinref12_Text.f (c.toNat : Int) = some (text c)) (by decide +kernel) c
theorem text_34 : text 34 = true := by decide +kernel
theorem text_92 : text 92 = true := by decide +kernel
theorem refQuote_l0 (s : ByteArray) (hs : s.size ≤ 1000000000) : ∀ (rest : Bytes) (i k : Nat) (acc : Bytes), (bs s).drop i = rest → i ≤ (bs s).length → 2 * rest.length + 1 ≤ k → acc.length ≤ 2 * i →
  bulletinref12_Quote.l0 k s (str acc) (i : Int) = some (str (34 :: (acc ++ rest.flatMap qB ++ [34])))
 | [], i, k, acc, hd, hi, hk, ha => by
  obtain ⟨k, rfl⟩ : ∃ j, k = j + 1 := ⟨k - 1, by omega⟩
  have := drop_nil hd
  rw [bs_length] at this hi
  rw [bulletinref12_Quote.l0, if_neg (by omega), if_pos (by rw [str_size]; omega), show (⟨#[34]⟩ : ByteArray) = str [34] from rfl, str_app, if_pos (by rw [str_size]; simp; omega), str_app]
  simp
 | c :: rest, i, k, acc, hd, hi, hk, ha => by
  obtain ⟨k, rfl⟩ : ∃ j, k = j + 1 + 1 := ⟨k - 2, by simp at hk; omega⟩
  obtain ⟨h1, h2, h3, h4⟩ := drop_cons hd
  have h5 : i < s.size := by rw [bs_length] at h1; exact h1
  simp only [List.length_cons] at hk
  have e34 : ((c.toNat : Int) = 34) = (c = 34) := byte_eq c 34 (by decide)
  have e92 : ((c.toNat : Int) = 92) = (c = 92) := byte_eq c 92 (by decide)
  have goon : ∀ acc' : Bytes, acc'.length ≤ acc.length + 2 → bulletinref12_Quote.l0 k s (str acc') (wrap64 ((i : Int) + 1)) = some (str (34 :: (acc' ++ rest.flatMap qB ++ [34]))) := by
   intro acc' hl
   rw [wrap_succ i (by omega)]
   exact refQuote_l0 s hs rest (i + 1) k acc' h3 (by omega) (by omega) (by omega)
  have esc : c = 34 ∨ c = 92 → bulletinref12_Quote.j1 (k + 1) s (str acc) (i : Int) (str [c]) true = some (str (34 :: (acc ++ (c :: rest).flatMap qB ++ [34]))) := by
   intro hc
   have ht : text c = true := by rcases hc with h | h <;> rw [h]; exact text_34; exact text_92
   rw [bulletinref12_Quote.j1, if_pos rfl, if_pos (by rw [str_size]; simp), if_pos (by omega), if_pos (by omega), bt_drop hd, reftext_is, Option.bind_some, ht, if_pos rfl, show (⟨#[92]⟩ : ByteArray) = str [92] from rfl, str_app, str_app, if_pos (by rw [str_size, str_size]; simp; omega), goon _ (by simp)]
   simp [qB, hc]
  rw [bulletinref12_Quote.l0, if_pos (by omega), if_pos (by omega), wrap_succ i (by omega), if_pos (by omega), if_pos (by omega), bt_drop hd]
  simp only [Int.toNat_natCast]
  rw [extract_one hd]
  by_cases c34 : c = 34
  ·rw [if_pos (by rw [e34]; exact c34), esc (.inl c34)]
  rw [if_neg (by rw [e34]; exact c34)]
  by_cases c92 : c = 92
  ·rw [show ((c.toNat : Int) == 92) = true by rw [beq_iff_eq, e92]; exact c92, esc (.inr c92)]
  rw [show ((c.toNat : Int) == 92) = false by rw [beq_eq_false_iff_ne, ne_eq, e92]; exact c92, bulletinref12_Quote.j1, if_neg (by decide), if_pos (by omega), if_pos (by omega), bt_drop hd, reftext_is, Option.bind_some]
  have hn : ¬ (c = 34 ∨ c = 92) := fun h => h.elim c34 c92
  cases ht : text c with
  | true =>
   rw [if_pos rfl, str_app, if_pos (by rw [str_size, str_size]; simp; omega), goon _ (by simp)]
   simp [qB, hn, ht]
  | false =>
   rw [if_neg (by decide), show (⟨#[32]⟩ : ByteArray) = str [32] from rfl, str_app, if_pos (by rw [str_size]; omega), goon _ (by simp)]
   simp [qB, hn, ht]
theorem refQuote_is (s : ByteArray) (hs : s.size ≤ 1000000000) (k : Nat) (hk : 2 * s.size + 1 ≤ k) : bulletinref12_Quote.f k s = some (str (quote (bs s))) := by
 have := refQuote_l0 s hs (bs s) 0 k [] (by simp) (by omega) (by rw [bs_length]; omega) (by simp)
 unfold bulletinref12_Quote.f quote
 exact this
theorem refText_is (a b : ByteArray) (ha : a.size ≤ 1000000) (hb : b.size ≤ 1000000) (k : Nat) (hk : 2 * a.size + 40 ≤ k) : bulletinref13_Text.f k a b = some (str (textL (bs a) (bs b))) := by
 unfold bulletinref13_Text.f textL localL
 rw [refDotted_is a ha k hk, Option.bind_some]
 cases hd : dottedL (bs a) with
 | true =>
  rw [if_pos rfl, if_pos (by omega), if_pos (by simp only [ByteArray.size_append]; have : (⟨#[64]⟩ : ByteArray).size = 1 := rfl; omega), if_pos rfl]
  congr 1
  apply bs_inj
  rw [bs_app, bs_app, bs_str]
  simp [bs]
 | false =>
  have hq := quote_length (bs a)
  rw [bs_length] at hq
  rw [if_neg (by decide), refQuote_is a (by omega) k (by omega), Option.bind_some]
  rw [if_pos (by rw [str_size]; omega), if_pos (by simp only [ByteArray.size_append, str_size]; have : (⟨#[64]⟩ : ByteArray).size = 1 := rfl; omega), if_neg (by decide)]
  congr 1
  apply bs_inj
  rw [bs_app, bs_app, bs_str, bs_str]
  simp [bs]
end Go.Proofs.YtnnlhpmkfijppaaGreatDoor.Pl
set_option linter.unusedVariables false
set_option linter.unusedSimpArgs false
namespace Go.Proofs.YtnnlhpmkfijppaaGreatDoor.Pl
open Go.RowKit Go.Proofs.YtnnlhpmkfijppaaGreatDoorW.PrintWords Go.Proofs.YtnnlhpmkfijppaaGreatDoor.Fn

/-! The reference's glyph functions, as the plain ones. -/
theorem fold_rounds (s : ByteArray) (hs : s.size ≤ 1000000000) : ∀ (l : Bytes) (k i : Nat) (acc : Bytes), (bs s).drop i = l → l.length < k → acc.length ≤ i →
  bulletinref06_Fold.l0 k s (str acc) (i : Int) = some (str (acc ++ fold l)) := by
 intro l
 induction l with
 | nil =>
  intro k i acc h hk ha
  obtain ⟨k, rfl⟩ : ∃ m, k = m + 1 := ⟨k - 1, by omega⟩
  have := drop_nil h
  rw [bs_length] at this
  simp only [bulletinref06_Fold.l0]
  rw [if_neg (by omega)]
  simp [fold]
 | cons c r ih =>
  intro k i acc h hk ha
  obtain ⟨k, rfl⟩ : ∃ m, k = m + 1 := ⟨k - 1, by omega⟩
  obtain ⟨h1, h2, h3, h4⟩ := drop_cons h
  rw [bs_length] at h1
  have hc := byte_lt c
  have hx := extract_one h
  have hw := wrap_succ i (by omega)
  simp only [bulletinref06_Fold.l0]
  rw [if_pos (by omega), if_pos (by omega), bt_drop h, hw]
  have hn := ih k (i + 1) (acc ++ [foldB c]) h3 (by simpa using hk) (by simp; omega)
  have hz : (str acc).size = acc.length := str_size acc
  have hfin : some (str (acc ++ [foldB c] ++ fold r)) = some (str (acc ++ fold (c :: r))) := by simp [fold]
  by_cases a : (c.toNat : Int) ≥ 65
  ·rw [if_pos a]
   by_cases b : (c.toNat : Int) ≤ 90
   ·rw [if_pos b]
    have e : strOfNums [((c.toNat : Int) + 32) % 256] = str [foldB c] := by
     rw [nums_one]
     congr 1
     have hf := foldB_up c ⟨by omega, b⟩
     have : (((c.toNat : Int) + 32) % 256).toNat = (foldB c).toNat := by omega
     rw [this, ofNat_toNat]
    simp only [Option.bind_some]
    rw [e, str_app, if_pos (by rw [hz, str_size]; simp; omega), hn, hfin]
   rw [if_neg b]
   have hf : foldB c = c := by unfold foldB; rw [if_neg (by omega)]
   rw [if_pos (by omega), if_pos (by omega), Int.toNat_natCast, Int.toNat_natCast, hx, str_app, if_pos (by rw [hz, str_size]; simp; omega)]
   rw [hf] at hn hfin
   rw [hn, hfin]
  rw [if_neg a]
  have hf : foldB c = c := by unfold foldB; rw [if_neg (by omega)]
  rw [if_pos (by omega), if_pos (by omega), Int.toNat_natCast, Int.toNat_natCast, hx, str_app, if_pos (by rw [hz, str_size]; simp; omega)]
  rw [hf] at hn hfin
  rw [hn, hfin]
theorem ref_fold (s : ByteArray) (hs : s.size ≤ 1000000000) (k : Nat) (hk : s.size < k) : bulletinref06_Fold.f k s = some (str (fold (bs s))) := by
 unfold bulletinref06_Fold.f
 have := fold_rounds s hs (bs s) k 0 [] (by simp) (by rw [bs_length]; exact hk) (by simp)
 simpa [str] using this

end Go.Proofs.YtnnlhpmkfijppaaGreatDoor.Pl
set_option linter.unusedVariables false
namespace Go.Proofs.YtnnlhpmkfijppaaGreatDoor.Pl
open Go.RowKit Go.Proofs.YtnnlhpmkfijppaaGreatDoorW.PrintWords Go.Proofs.YtnnlhpmkfijppaaGreatDoor.Fn

/-! The document's labels, domains, right addresses. -/
def labN (n : Int) : Prop := (97 ≤ n ∧ n ≤ 122) ∨ (65 ≤ n ∧ n ≤ 90) ∨ (48 ≤ n ∧ n ≤ 57) ∨ n = 45
instance (n : Int) : Decidable (labN n) := by unfold labN; infer_instance
set_option maxRecDepth 100000 in
theorem labelled_N (c : UInt8) : labelled c = decide (labN (c.toNat : Int)) := forall_byte (p := fun c => labelled c = decide (labN (c.toNat : Int))) (by decide +kernel) c
theorem reflabel_step (k : Nat) (s : ByteArray) (i n : Int) (h0 : 0 ≤ n) (h1 : n < 256) :
  (if n ≥ 65 then bulletinref13_label.j1 (k + 1) s i n (decide (n ≤ 90)) else bulletinref13_label.j1 (k + 1) s i n false) =
   if labN n ∧ ¬ (n = 45 ∧ (i = 0 ∨ i = wrap64 ((s.size : Int) - 1))) then bulletinref13_label.l0 k s (wrap64 (i + 1)) else some false := by
 generalize hG : bulletinref13_label.l0 k s (wrap64 (i + 1)) = G
 by_cases hup : 65 ≤ n ∧ n ≤ 90
 ·have e : (n + 32) % 256 = n + 32 := by omega
  rw [if_pos hup.1, show decide (n ≤ 90) = true by simpa using hup.2, if_pos ⟨.inr (.inl hup), by omega⟩, bulletinref13_label.j1, if_pos rfl, hG, e]
  by_cases hi : i = 0
  ·rw [if_pos hi, if_pos (by omega), if_pos (by omega)]
  rw [if_neg hi, if_pos (by omega), if_pos (by omega)]
 have hj : (if n ≥ 65 then bulletinref13_label.j1 (k + 1) s i n (decide (n ≤ 90)) else bulletinref13_label.j1 (k + 1) s i n false) = bulletinref13_label.j1 (k + 1) s i n false := by
  by_cases h : n ≥ 65
  ·rw [if_pos h, show decide (n ≤ 90) = false by simp; omega]
  rw [if_neg h]
 rw [hj, bulletinref13_label.j1, if_neg (by decide), hG]
 by_cases hi : i = 0
 ·rw [if_pos hi]
  by_cases a : 97 ≤ n ∧ n ≤ 122
  ·rw [if_pos a.1, if_pos a.2, if_pos ⟨.inl a, by omega⟩]
  by_cases b : 48 ≤ n ∧ n ≤ 57
  ·rw [if_neg (by omega), if_pos b.1, if_pos b.2, if_pos ⟨.inr (.inr (.inl b)), by omega⟩]
  rw [if_neg (c := labN n ∧ _) (by unfold labN; rintro ⟨h | h | h | h, g⟩ <;> first | omega | exact g ⟨h, .inl hi⟩)]
  repeat' split
  all_goals first | rfl | omega
 rw [if_neg hi]
 by_cases a : 97 ≤ n ∧ n ≤ 122
 ·rw [if_pos a.1, if_pos a.2, if_pos ⟨.inl a, by omega⟩]
 by_cases b : 48 ≤ n ∧ n ≤ 57
 ·rw [if_neg (by omega), if_pos b.1, if_pos b.2, if_pos ⟨.inr (.inr (.inl b)), by omega⟩]
 by_cases c : n = 45
 ·by_cases d : i = wrap64 ((s.size : Int) - 1)
  ·rw [if_neg (c := labN n ∧ _) (by rintro ⟨_, g⟩; exact g ⟨c, .inr d⟩)]
   repeat' split
   all_goals first | rfl | omega
  rw [if_pos (c := labN n ∧ _) ⟨.inr (.inr (.inr c)), by rintro ⟨_, g | g⟩; exact hi g; exact d g⟩]
  repeat' split
  all_goals first | rfl | omega
 rw [if_neg (c := labN n ∧ _) (by unfold labN; rintro ⟨h | h | h | h, g⟩ <;> omega)]
 repeat' split
 all_goals first | rfl | omega
def labFrom (m : Nat) : Nat → Bytes → Bool
 | _, [] => true
 | i, c :: l => labelled c && !(c == 45 && (i == 0 || i + 1 == m)) && labFrom m (i + 1) l
theorem reflabel_l0 (s : ByteArray) (hs : s.size ≤ 1000000000) : ∀ (rest : Bytes) (i k : Nat), (bs s).drop i = rest → i ≤ (bs s).length → 2 * rest.length + 1 ≤ k →
  bulletinref13_label.l0 k s (i : Int) = some (labFrom s.size i rest && !(bs s).isEmpty)
 | [], i, k, hd, hi, hk => by
  obtain ⟨k, rfl⟩ : ∃ j, k = j + 1 := ⟨k - 1, by omega⟩
  have := drop_nil hd
  rw [bs_length] at this hi
  rw [bulletinref13_label.l0, if_neg (by omega), toList_bs]
  cases bs s <;> simp [labFrom]
 | c :: rest, i, k, hd, hi, hk => by
  obtain ⟨k, rfl⟩ : ∃ j, k = j + 1 + 1 := ⟨k - 2, by simp at hk; omega⟩
  obtain ⟨h1, h2, h3, h4⟩ := drop_cons hd
  have h5 : i < s.size := by rw [bs_length] at h1; exact h1
  have hc := c.toNat_lt
  simp only [List.length_cons] at hk
  rw [bulletinref13_label.l0, if_pos (by omega), if_pos (by omega), bt_drop hd, reflabel_step k s i (c.toNat : Int) (by omega) (by omega), wrap_id (x := (s.size : Int) - 1) (by omega) (by omega), wrap_succ i (by omega)]
  rw [reflabel_l0 s hs rest (i + 1) k h3 (by omega) (by omega), labFrom, labelled_N]
  have hne : (bs s).isEmpty = false := by
   cases hb : bs s with
   | nil => rw [hb] at h1; simp at h1
   | cons _ _ => rfl
  have e45 : (c = 45) ↔ ((c.toNat : Int) = 45) := by rw [byte_45]
  rw [hne]
  by_cases hl : labN (c.toNat : Int)
  ·by_cases hq : (c.toNat : Int) = 45 ∧ ((i : Int) = 0 ∨ (i : Int) = (s.size : Int) - 1)
   ·rw [if_neg (fun h => h.2 hq)]
    have q1 : (c == 45) = true := by rw [beq_iff_eq, e45]; exact hq.1
    have q2 : (i == 0 || i + 1 == s.size) = true := by
     rcases hq.2 with h | h
     ·simp; left; omega
     simp; right; omega
    rw [q1, q2]
    simp
   rw [if_pos ⟨hl, hq⟩]
   have q : (c == 45 && (i == 0 || i + 1 == s.size)) = false := by
    rw [Bool.eq_false_iff]
    intro h
    simp at h
    exact hq ⟨e45.1 h.1, h.2.imp (fun h => by omega) (fun h => by omega)⟩
   rw [q, decide_eq_true hl]
   simp
  rw [if_neg (fun h => hl h.1), decide_eq_false hl]
  simp
theorem labFrom_all (m : Nat) : ∀ (l : Bytes) (i : Nat), 0 < i → i + l.length = m → labFrom m i l = (l.all labelled && (match l.getLast? with | some b => b != 45 | none => true))
 | [], i, _, _ => rfl
 | [c], i, h0, h => by
  simp only [labFrom, List.length_cons, List.length_nil] at h ⊢
  have : (i == 0) = false := by simp; omega
  have h2 : (i + 1 == m) = true := by simp; omega
  show (labelled c && !(c == 45 && (i == 0 || i + 1 == m)) && true) = ((labelled c && true) && (c != 45))
  rw [this, h2]
  cases labelled c <;> cases hx : (c == 45) <;> simp [bne, hx]
 | c :: d :: l, i, h0, h => by
  rw [labFrom, labFrom_all m (d :: l) (i + 1) (by omega) (by simp at h ⊢; omega)]
  have : (i == 0) = false := by simp; omega
  have h2 : (i + 1 == m) = false := by simp at h ⊢; omega
  rw [this, h2]
  have e : (c :: d :: l).getLast? = (d :: l).getLast? := by simp [List.getLast?_cons_cons]
  rw [e, List.all_cons (a := c)]
  cases labelled c <;> simp
theorem labFrom_label (w : Bytes) : (labFrom w.length 0 w && !w.isEmpty) = labelL w := by
 unfold labelL
 cases w with
 | nil => rfl
 | cons c l =>
  rw [labFrom]
  cases l with
  | nil =>
   show ((labelled c && !(c == 45 && ((0 : Nat) == 0 || 0 + 1 == 1)) && true) && true) = ((labelled c && true) && (c != 45 && c != 45))
   cases labelled c <;> cases hx : (c == 45) <;> simp [bne, hx]
  | cons d l =>
   rw [labFrom_all _ (d :: l) 1 (by omega) (by simp; omega)]
   have e : (c :: d :: l).getLast? = (d :: l).getLast? := by simp [List.getLast?_cons_cons]
   rw [e, List.all_cons (a := c)]
   have hx : ∃ b, (d :: l).getLast? = some b := ⟨(d :: l).getLast (by simp), List.getLast?_eq_some_getLast (by simp)⟩
   obtain ⟨b, hb⟩ := hx
   rw [hb]
   simp only [List.head?_cons, List.isEmpty_cons, Bool.not_false, Bool.and_true, beq_self_eq_true, Bool.true_or]
   have hc : (!(c == 45)) = (c != 45) := rfl
   rw [hc]
   cases labelled c <;> cases (c != 45) <;> cases ((d :: l).all labelled) <;> cases (b != 45) <;> rfl
theorem reflabel_is (s : ByteArray) (hs : s.size ≤ 1000000000) (k : Nat) (hk : 2 * s.size + 1 ≤ k) : bulletinref13_label.f k s = some (labelL (bs s)) := by
 have := reflabel_l0 s hs (bs s) 0 k (by simp) (by omega) (by rw [bs_length]; omega)
 rw [← bs_length s, labFrom_label] at this
 unfold bulletinref13_label.f
 exact this
theorem reffold_is (s : ByteArray) (hs : s.size ≤ 1000000000) (k : Nat) (hk : s.size < k) : bulletinref06_Fold.f k s = some (str (fold (bs s))) := ref_fold s hs k hk
theorem refDomain_l0 (s : ByteArray) (hs : s.size ≤ 1000000) (l : List Bytes) (hl : l.length ≤ 1000000000) (hw : ∀ w ∈ l, w.length ≤ s.size) : ∀ (rest : List Bytes) (i k : Nat) (b : Bool), l.drop i = rest → i ≤ l.length → rest.length + 2 * s.size + 30 ≤ k →
  bulletinref13_Domain.l0 k s (l.map str) b (i : Int) = some (if rest.all labelL = true then (if (b || rest.any (fun w => decide (63 < w.length))) = true then (str [], 2) else (str (fold (bs s)), 0)) else (str [], 130))
 | [], i, k, b, hd, hi, hk => by
  obtain ⟨k, rfl⟩ : ∃ j, k = j + 1 := ⟨k - 1, by omega⟩
  have : l.length ≤ i := by have := congrArg List.length hd; simp at this; omega
  rw [bulletinref13_Domain.l0, if_neg (by rw [List.length_map]; omega)]
  cases b with
  | true => simp; rfl
  | false =>
   rw [if_neg (by decide), reffold_is s (by omega) k (by omega)]
   simp
 | x :: rest, i, k, b, hd, hi, hk => by
  obtain ⟨k, rfl⟩ : ∃ j, k = j + 1 := ⟨k - 1, by omega⟩
  obtain ⟨h1, h2⟩ := dropS_lt hd
  have hx := hw x (List.mem_of_mem_drop (i := i) (by rw [hd]; simp))
  simp only [List.length_cons] at hk
  rw [bulletinref13_Domain.l0, if_pos (by rw [List.length_map]; omega), if_pos (by omega), rdS_drop hd, reflabel_is (str x) (by rw [str_size]; omega) k (by rw [str_size]; omega), bs_str, Option.bind_some, str_size, wrap_succ i (by omega)]
  cases ha : labelL x with
  | false => rw [if_neg (by decide)]; simp [ha]; rfl
  | true =>
   rw [if_pos rfl]
   by_cases hlen : (x.length : Int) > 63
   ·rw [if_pos hlen, refDomain_l0 s hs l hl hw rest (i + 1) k true h2 (by omega) (by omega)]
    have : decide (63 < x.length) = true := by simp; omega
    simp [ha, this]
   rw [if_neg hlen, refDomain_l0 s hs l hl hw rest (i + 1) k b h2 (by omega) (by omega)]
   have : decide (63 < x.length) = false := by simp; omega
   simp [ha, this]
def domTextL (l : Bytes) : ByteArray := if domainL l = 0 then str (fold l) else str []
theorem refDomain_is (s : ByteArray) (hs : s.size ≤ 1000000) (k : Nat) (hk : 3 * s.size + 40 ≤ k) : bulletinref13_Domain.f k s = some (domTextL (bs s), domainL (bs s)) := by
 unfold bulletinref13_Domain.f
 have hl := splitL_length 46 (bs s)
 rw [bs_length] at hl
 rw [refSplit_is s (by omega) k (by omega), Option.bind_some]
 rw [show (0 : Int) = ((0 : Nat) : Int) from rfl, refDomain_l0 s hs (splitL 46 (bs s)) (by omega) (fun w hw => by have := splitL_mem_length 46 _ _ hw; rw [bs_length] at this; exact this) (splitL 46 (bs s)) 0 k _ (by simp) (by omega) (by omega)]
 have e : decide ((s.size : Int) > 253) = decide (253 < (bs s).length) := by
  rw [bs_length]
  congr 1
  exact propext ⟨fun h => by omega, fun h => by omega⟩
 rw [e]
 unfold domTextL domainL domLongL
 by_cases h1 : (splitL 46 (bs s)).all labelL = true
 ·rw [if_pos h1, if_pos h1]
  by_cases h2 : (decide (253 < (bs s).length) || (splitL 46 (bs s)).any fun w => decide (63 < w.length)) = true
  ·rw [if_pos h2, if_pos h2]; simp
  rw [if_neg h2, if_neg h2]; simp
 rw [if_neg h1, if_neg h1]
 simp
theorem refWhy_l0 (a b : ByteArray) (ha : a.size ≤ 1000000) (hb : b.size ≤ 1000000) (e : Int) : ∀ (rest : Bytes) (i k : Nat), (bs a).drop i = rest → i ≤ (bs a).length → rest.length + 2 * a.size + 50 ≤ k →
  bulletinref13_Why.l0 k e (i : Int) a b = some (if rest.all plainB = true then (if e ≠ 0 ∨ 64 < a.size ∨ 254 < (textL (bs a) (bs b)).length then 2 else 0) else 130)
 | [], i, k, hd, hi, hk => by
  obtain ⟨k, rfl⟩ : ∃ j, k = j + 1 := ⟨k - 1, by omega⟩
  have := drop_nil hd
  rw [bs_length] at this hi
  rw [bulletinref13_Why.l0, if_neg (by omega), if_pos (c := ([] : Bytes).all plainB = true) rfl]
  by_cases h3 : e = 0
  ·rw [if_pos h3]
   by_cases h4 : (a.size : Int) > 64
   ·rw [if_pos h4, if_pos (.inr (.inl (by omega)))]
   rw [if_neg h4, refText_is a b ha hb k (by omega)]
   simp only [Option.bind_some]
   rw [str_size]
   by_cases h5 : ((textL (bs a) (bs b)).length : Int) > 254
   ·rw [if_pos h5, if_pos (.inr (.inr (by omega)))]
   rw [if_neg h5, if_neg (by rintro (h | h | h); exact h h3; omega; omega)]
  rw [if_neg h3, if_pos (.inl h3)]
 | c :: rest, i, k, hd, hi, hk => by
  obtain ⟨k, rfl⟩ : ∃ j, k = j + 1 := ⟨k - 1, by omega⟩
  obtain ⟨h1, h2, h3, h4⟩ := drop_cons hd
  have h5 : i < a.size := by rw [bs_length] at h1; exact h1
  simp only [List.length_cons] at hk
  rw [bulletinref13_Why.l0, if_pos (by omega), if_pos (by omega), bt_drop hd]
  by_cases hp : plainB c = true
  ·have hp' := hp
   unfold plainB at hp'
   simp at hp'
   rw [if_neg (by omega), if_neg (by omega), wrap_succ i (by omega), refWhy_l0 a b ha hb e rest (i + 1) k h3 (by omega) (by omega)]
   simp [hp]
  have hp' := hp
  unfold plainB at hp'
  simp at hp'
  have : (c :: rest).all plainB = false := by simp [hp]
  rw [this, if_neg (c := false = true) (by decide)]
  by_cases hc : (c.toNat : Int) < 32
  ·rw [if_pos hc]
  rw [if_neg hc, if_pos (by omega)]
theorem refWhy_is (a b : ByteArray) (ha : a.size ≤ 1000000) (hb : b.size ≤ 1000000) (k : Nat) (hk : 3 * a.size + 3 * b.size + 60 ≤ k) : bulletinref13_Why.f k a b = some (why a b) := by
 unfold bulletinref13_Why.f why
 rw [refDomain_is b hb k (by omega), domain_L, plain_L]
 simp only [Option.bind_some]
 obtain ⟨k, rfl⟩ : ∃ j, k = j + 1 := ⟨k - 1, by omega⟩
 have yes : bulletinref13_Why.j0 (k + 1) (domainL (bs b)) true a b = some 130 := by rw [bulletinref13_Why.j0, if_pos rfl]
 by_cases h1 : domainL (bs b) = 130
 ·rw [if_pos h1, if_pos (.inl h1), yes]
 rw [if_neg h1, toList_bs]
 by_cases h2 : bs a = []
 ·rw [h2, if_pos (.inr (.inl rfl))]
  exact yes
 rw [show (bs a == []) = false by simpa using h2, bulletinref13_Why.j0, if_neg (by decide)]
 have hl0 := refWhy_l0 a b ha hb (domainL (bs b)) (bs a) 0 k (by simp) (by omega) (by rw [bs_length]; omega)
 rw [show ((0 : Nat) : Int) = 0 from rfl] at hl0
 rw [hl0]
 cases hp : (bs a).all plainB with
 | false => rw [if_neg (by decide), if_pos (.inr (.inr rfl))]
 | true => rw [if_pos rfl, if_neg (c := domainL (bs b) = 130 ∨ _) (by simp [h1, h2])]
end Go.Proofs.YtnnlhpmkfijppaaGreatDoor.Pl
namespace Go.Proofs.YtnnlhpmkfijppaaGreatDoor.Fn
open Go.RowKit Go.Proofs.YtnnlhpmkfijppaaGreatDoorW.PrintWords Go.Proofs.YtnnlhpmkfijppaaGreatDoorW.PrintLast Go.Proofs.YtnnlhpmkfijppaaGreatDoorW.PrintMore
attribute [local go_sem] max2_int min2_int max_two min_two max_three min_three max_four min_four
set_option linter.unusedVariables false
set_option linter.unusedSimpArgs false
def bulletinref13_Right.f (k : Nat) (a0_0 : ByteArray) (a0_1 : ByteArray) : Option (Bool) := (bulletinref13_Why.f k a0_0 a0_1).bind fun t391 => (if t391 = 0 then ((bulletinref06_Fold.f k a0_1).bind fun t392 => (some (t392.toList == a0_1.toList))) else (some false))
def bulletinref13_Right.T1 : Bool × List (List Nat × List Nat) := (true, [([], []), ([0], [0]), ([1], [1]), ([2, 1], [2]), ([3], [3]), ([4, 3], [3, 4]), ([5, 3, 3], [3, 5]), ([3], [3]), ([7, 3], [3, 7]), ([6, 8, 3], [3, 6, 8]), ([3, 9], [3, 9]), ([10, 6, 0, 1, 2, 3, 4, 5, 6, 7, 8, 9, 10], [10])])
def bulletinref13_Right.B1 : List Nat := [0, 1, 3, 7, 15, 31, 63, 15, 143, 511, 1023, 2047]
theorem bulletinref13_Right.tab1 : rtab .any (opsOf Tryz.f41 1) = bulletinref13_Right.T1 := by kernel_rfl
theorem bulletinref13_Right.bits1 : waitsOk bulletinref13_Right.T1.2 bulletinref13_Right.B1 = true := by kernel_rfl
set_option maxHeartbeats 8000000 in
set_option maxRecDepth 100000 in
theorem bulletinref13_Right.calls (k : Nat) (a0_0 : ByteArray) (a0_1 : ByteArray) (r : Bool) (w : World) (h : bulletinref13_Right.f k a0_0 a0_1 = some r) :
  Calls Tryz.prog 41 #[.agg #[.string a0_0, .string a0_1]] w fun e w' => e = .returned (.bool r) ∧ Below w.heap.size w w' := by
 have hu23 := Tryz.underlying23; have HB := Aside0.mk (Below.refl w.heap.size w); have H : ((bulletinref13_Why.f k a0_0 a0_1).bind fun t391 => (if t391 = 0 then ((bulletinref06_Fold.f k a0_1).bind fun t392 => (some (t392.toList == a0_1.toList))) else (some false))) = some r := h; clear h; replace H := Option.bind_eq_some_iff.mp H; obtain ⟨t391, A20, H⟩ := H; have A2 := Aside0.mk A20; clear A20
 by_cases c3 : t391 = 0
 ·rw [if_pos c3] at H; have c3b0 := beq_iff_eq.mpr c3; have c3b1 := bne_eq_false_iff_eq.mpr c3; clear c3; replace H := Option.bind_eq_some_iff.mp H; obtain ⟨t392, A40, H⟩ := H; have A4 := Aside0.mk A40; clear A40; obtain rfl := Option.some.inj H
  go_enter Tryz.func41, Tryz.ntmps41
  try go_wp2_with (first | ((with_reducible refine gate_dst (N := 1) rfl ?_); refine box_event ?hg (N := 1) ?hd (cs := #[.string a0_0, .string a0_1]) (t := 23) ?hr ?_; (case hd => rfl); (case hg => rfl); (case hr => first | (go_simp; done) | (go_simp; rfl)); intro gb390 hg w5 hbox hb; have n0_ := Aside0.mk (below_step bw hb); have n1_ := Aside0.mk (hbox); have n2_ := Aside0.mk ((by rw [hg]; exact (below_size bw) : w.heap.size ≤ gb390)); have n3_ := Aside0.mk ((by rw [hg]; exact (below_size bw) : w.heap.size ≤ gb390)); clear HB; have HB := n0_; have BK390 := n1_; have GW390 := n2_; have GE390 := n3_; clear n0_ n1_ n2_ n3_; clear hb hbox hg))
  have n0_ := Aside0.mk (blk_drew BK390.out); have n1_ := Aside0.mk (below_drew1 HB.out); clear BK390 HB; have BK390 := n0_; have HB := n1_; clear n0_ n1_; refine start_ (n := 12) (S := fun w' => w'.cell? ⟨gb390, 0, none⟩ = some (.string a0_0) ∧ w'.cell? ⟨gb390, 1, none⟩ = some (.string a0_1)) (ds := []) #[false, false, false, false, false, false, false, false, false, false, false, false] (by kernel_rfl) rfl rfl ⟨(blk_cell BK390.out 0).trans rfl, (blk_cell BK390.out 1).trans rfl⟩ (fun hHeld => ?_); refine with_tabW bulletinref13_Right.tab1 bulletinref13_Right.bits1 (fun HT_ HW_ => ?_)
  generalize w5.drew = w6 at BK390 HB hHeld ⊢
  refine take_ (i := 0) (N := some 3) (v := ?_) (a' := ?_) (bitsL 12 1) rfl rfl (take_ofW HT_.out HW_.out (by kernel_rfl)) (fun _ _ _ h => h) (Or.inl ⟨by rfl, ?_⟩) hHeld ?_ ?_; rotate_left
  ·rintro w' ⟨s0, s1⟩; go_simp; with_reducible rfl
  rotate_left
  ·simp only [Act.put, List.setIfInBounds_toArray, List.set_cons_zero, List.set_cons_succ, i64_w, i32_w]; rfl
  refine one_ (i := 1) (N := some 4) (bitsL 12 3) rfl rfl (one_of HT_.out (by kernel_rfl)) (by decide) (fun K hK => ?_); refine goes_ Tryz.func61 (by kernel_rfl) rfl #[.agg #[.string a0_0, .string a0_1]] (by rfl) rfl rfl am ?_; with_reducible refine (bulletinref13_Why.calls k a0_0 a0_1 t391 _ A2.out).mono ?_
  rintro e w7 ⟨rfl, hb⟩; refine ⟨_, rfl, ?_⟩; have n0_ := Aside0.mk (blk_below (g := gb390) (o := .cells #[.string a0_0, .string a0_1] 23 (0, 0)) bk hb); have n1_ := Aside0.mk (below_step bwS hb); clear BK390 HB; have BK390 := n0_; have HB := n1_; clear n0_ n1_
  (try clear hb)
  (try clear hb2)
  (try clear hk)
  (try clear hi)
  refine hK.out _ _ ⟨(blk_cell BK390.out 0).trans rfl, (blk_cell BK390.out 1).trans rfl⟩ (fun hHeld => ?_); clear hK K; refine norm_ (a' := ?_) ?_ ?_; rotate_left
  ·show Act.put _ (some 4) _ = _
   simp only [Act.put, List.setIfInBounds_toArray, List.set_cons_zero, List.set_cons_succ, i64_w, i32_w]; rfl
  refine pure_ (i := 2) (N := some 5) (v := ?_) (a' := ?_) (bitsL 12 7) rfl rfl (any_of HT_.out (by kernel_rfl)) (fun _ _ _ h => h) (Or.inl ⟨by rfl, ?_⟩) ?_ ?_; rotate_left
  ·intro w'; go_simp; with_reducible rfl
  rotate_left
  ·simp only [Act.put, List.setIfInBounds_toArray, List.set_cons_zero, List.set_cons_succ, i64_w, i32_w]; rfl
  refine pure_ (i := 3) (N := some 6) (v := ?_) (a' := ?_) (bitsL 12 15) rfl rfl (any_of HT_.out (by kernel_rfl)) (fun _ _ _ h => h) (Or.inl ⟨by rfl, ?_⟩) ?_ ?_; rotate_left
  ·intro w'; go_simp; with_reducible rfl
  rotate_left
  ·simp only [Act.put, List.setIfInBounds_toArray, List.set_cons_zero, List.set_cons_succ, i64_w, i32_w]; rfl
  refine pure_ (i := 4) (N := some 7) (v := ?_) (a' := ?_) (bitsL 12 31) rfl rfl (any_of HT_.out (by kernel_rfl)) (fun _ _ _ h => h) (Or.inl ⟨by rfl, ?_⟩) ?_ ?_; rotate_left
  ·intro w'; go_simp; with_reducible rfl
  rotate_left
  ·simp only [Act.put, List.setIfInBounds_toArray, List.set_cons_zero, List.set_cons_succ, i64_w, i32_w]; rfl
  refine pure_ (i := 7) (N := some 10) (v := ?_) (a' := ?_) (bitsL 12 159) rfl rfl (any_of HT_.out (by kernel_rfl)) (fun _ _ _ h => h) (Or.inl ⟨by rfl, ?_⟩) ?_ ?_; rotate_left
  ·intro w'; go_simp; with_reducible rfl
  rotate_left
  ·simp only [Act.put, List.setIfInBounds_toArray, List.set_cons_zero, List.set_cons_succ, i64_w, i32_w]; rfl
  refine take_ (i := 5) (N := some 8) (v := ?_) (a' := ?_) (bitsL 12 191) rfl rfl (take_ofW HT_.out HW_.out (by kernel_rfl)) (fun _ _ _ h => h) (Or.inl ⟨by rfl, ?_⟩) hHeld ?_ ?_; rotate_left
  ·rintro w' ⟨s0, s1⟩; go_simp; with_reducible rfl
  rotate_left
  ·simp only [Act.put, List.setIfInBounds_toArray, List.set_cons_zero, List.set_cons_succ, i64_w, i32_w]; rfl
  refine take_ (i := 8) (N := some 11) (v := ?_) (a' := ?_) (bitsL 12 447) rfl rfl (take_ofW HT_.out HW_.out (by kernel_rfl)) (fun _ _ _ h => h) (Or.inl ⟨by rfl, ?_⟩) hHeld ?_ ?_; rotate_left
  ·rintro w' ⟨s0, s1⟩; go_simp; with_reducible rfl
  rotate_left
  ·simp only [Act.put, List.setIfInBounds_toArray, List.set_cons_zero, List.set_cons_succ, i64_w, i32_w]; rfl
  refine one_ (i := 6) (N := some 9) (bitsL 12 511) rfl rfl (one_of HT_.out (by kernel_rfl)) (by decide) (fun K hK => ?_); refine goes_ Tryz.func62 (by kernel_rfl) rfl #[.string a0_1] (by rfl) rfl rfl am ?_; with_reducible refine (bulletinref06_Fold.calls k a0_1 t392 _ A4.out).mono ?_
  rintro e w8 ⟨rfl, hb⟩; refine ⟨_, rfl, ?_⟩; have n0_ := Aside0.mk (blk_below (g := gb390) (o := .cells #[.string a0_0, .string a0_1] 23 (0, 0)) bk hb); have n1_ := Aside0.mk (below_step bwS hb); clear BK390 HB; have BK390 := n0_; have HB := n1_; clear n0_ n1_
  (try clear hb)
  (try clear hb2)
  (try clear hk)
  (try clear hi)
  refine hK.out _ _ ⟨(blk_cell BK390.out 0).trans rfl, (blk_cell BK390.out 1).trans rfl⟩ (fun hHeld => ?_); clear hK K; refine norm_ (a' := ?_) ?_ ?_; rotate_left
  ·show Act.put _ (some 9) _ = _
   simp only [Act.put, List.setIfInBounds_toArray, List.set_cons_zero, List.set_cons_succ, i64_w, i32_w]; rfl
  refine pure_ (i := 9) (N := some 12) (v := ?_) (a' := ?_) (bitsL 12 1023) rfl rfl (any_of HT_.out (by kernel_rfl)) (fun _ _ _ h => h) (Or.inl ⟨by rfl, ?_⟩) ?_ ?_; rotate_left
  ·intro w'; go_simp; with_reducible rfl
  rotate_left
  ·simp only [Act.put, List.setIfInBounds_toArray, List.set_cons_zero, List.set_cons_succ, i64_w, i32_w]; rfl
  refine pure_ (i := 10) (N := some 13) (v := ?_) (a' := ?_) (bitsL 12 2047) rfl rfl (any_of HT_.out (by kernel_rfl)) (fun _ _ _ h => h) (Or.inl ⟨by rfl, ?_⟩) ?_ ?_; rotate_left
  ·intro w'; go_simp; with_reducible rfl
  rotate_left
  ·simp only [Act.put, List.setIfInBounds_toArray, List.set_cons_zero, List.set_cons_succ, i64_w, i32_w]; rfl
  refine pure_ (i := 11) (N := some 2) (v := ?_) (a' := ?_) (bitsL 12 4095) rfl rfl (any_of HT_.out (by kernel_rfl)) (fun _ _ _ h => h) (Or.inl ⟨by rfl, ?_⟩) ?_ ?_; rotate_left
  ·intro w'; go_simp; with_reducible rfl
  rotate_left
  ·simp only [Act.put, List.setIfInBounds_toArray, List.set_cons_zero, List.set_cons_succ, i64_w, i32_w]; rfl
  refine done_ (done_of HT_.out (by kernel_rfl)) ?_
  try go_wp2
  go_ret
  exact ⟨ew, bwS⟩
 rw [if_neg c3] at H; have c3b0 := beq_eq_false_iff_ne.mpr c3; have c3b1 := bne_iff_ne.mpr c3; obtain rfl := Option.some.inj H
 go_enter Tryz.func41, Tryz.ntmps41
 try go_wp2_with (first | ((with_reducible refine gate_dst (N := 1) rfl ?_); refine box_event ?hg (N := 1) ?hd (cs := #[.string a0_0, .string a0_1]) (t := 23) ?hr ?_; (case hd => rfl); (case hg => rfl); (case hr => first | (go_simp; done) | (go_simp; rfl)); intro gb390 hg w9 hbox hb; have n0_ := Aside0.mk (below_step bw hb); have n1_ := Aside0.mk (hbox); have n2_ := Aside0.mk ((by rw [hg]; exact (below_size bw) : w.heap.size ≤ gb390)); have n3_ := Aside0.mk ((by rw [hg]; exact (below_size bw) : w.heap.size ≤ gb390)); clear HB; have HB := n0_; have BK390 := n1_; have GW390 := n2_; have GE390 := n3_; clear n0_ n1_ n2_ n3_; clear hb hbox hg))
 have n0_ := Aside0.mk (blk_drew BK390.out); have n1_ := Aside0.mk (below_drew1 HB.out); clear BK390 HB; have BK390 := n0_; have HB := n1_; clear n0_ n1_; refine start_ (n := 12) (S := fun w' => w'.cell? ⟨gb390, 0, none⟩ = some (.string a0_0) ∧ w'.cell? ⟨gb390, 1, none⟩ = some (.string a0_1)) (ds := []) #[false, false, false, false, false, false, false, false, false, false, false, false] (by kernel_rfl) rfl rfl ⟨(blk_cell BK390.out 0).trans rfl, (blk_cell BK390.out 1).trans rfl⟩ (fun hHeld => ?_); refine with_tabW bulletinref13_Right.tab1 bulletinref13_Right.bits1 (fun HT_ HW_ => ?_)
 generalize w9.drew = w10 at BK390 HB hHeld ⊢
 refine take_ (i := 0) (N := some 3) (v := ?_) (a' := ?_) (bitsL 12 1) rfl rfl (take_ofW HT_.out HW_.out (by kernel_rfl)) (fun _ _ _ h => h) (Or.inl ⟨by rfl, ?_⟩) hHeld ?_ ?_; rotate_left
 ·rintro w' ⟨s0, s1⟩; go_simp; with_reducible rfl
 rotate_left
 ·simp only [Act.put, List.setIfInBounds_toArray, List.set_cons_zero, List.set_cons_succ, i64_w, i32_w]; rfl
 refine one_ (i := 1) (N := some 4) (bitsL 12 3) rfl rfl (one_of HT_.out (by kernel_rfl)) (by decide) (fun K hK => ?_); refine goes_ Tryz.func61 (by kernel_rfl) rfl #[.agg #[.string a0_0, .string a0_1]] (by rfl) rfl rfl am ?_; with_reducible refine (bulletinref13_Why.calls k a0_0 a0_1 t391 _ A2.out).mono ?_
 rintro e w11 ⟨rfl, hb⟩; refine ⟨_, rfl, ?_⟩; have n0_ := Aside0.mk (blk_below (g := gb390) (o := .cells #[.string a0_0, .string a0_1] 23 (0, 0)) bk hb); have n1_ := Aside0.mk (below_step bwS hb); clear BK390 HB; have BK390 := n0_; have HB := n1_; clear n0_ n1_
 (try clear hb)
 (try clear hb2)
 (try clear hk)
 (try clear hi)
 refine hK.out _ _ ⟨(blk_cell BK390.out 0).trans rfl, (blk_cell BK390.out 1).trans rfl⟩ (fun hHeld => ?_); clear hK K; refine norm_ (a' := ?_) ?_ ?_; rotate_left
 ·show Act.put _ (some 4) _ = _
  simp only [Act.put, List.setIfInBounds_toArray, List.set_cons_zero, List.set_cons_succ, i64_w, i32_w]; rfl
 refine pure_ (i := 2) (N := some 5) (v := ?_) (a' := ?_) (bitsL 12 7) rfl rfl (any_of HT_.out (by kernel_rfl)) (fun _ _ _ h => h) (Or.inl ⟨by rfl, ?_⟩) ?_ ?_; rotate_left
 ·intro w'; go_simp; with_reducible rfl
 rotate_left
 ·simp only [Act.put, List.setIfInBounds_toArray, List.set_cons_zero, List.set_cons_succ, i64_w, i32_w]; rfl
 refine pure_ (i := 3) (N := some 6) (v := ?_) (a' := ?_) (bitsL 12 15) rfl rfl (any_of HT_.out (by kernel_rfl)) (fun _ _ _ h => h) (Or.inl ⟨by rfl, ?_⟩) ?_ ?_; rotate_left
 ·intro w'; go_simp; with_reducible rfl
 rotate_left
 ·simp only [Act.put, List.setIfInBounds_toArray, List.set_cons_zero, List.set_cons_succ, i64_w, i32_w]; rfl
 refine pure_ (i := 4) (N := some 7) (v := undef) (a' := ?_) (bitsL 12 31) rfl rfl (any_of HT_.out (by kernel_rfl)) (fun _ _ _ h => h) (Or.inr ⟨by rfl, rfl⟩) ?_ ?_; rotate_left
 ·simp only [Act.put, List.setIfInBounds_toArray, List.set_cons_zero, List.set_cons_succ, i64_w, i32_w]; rfl
 refine pure_ (i := 5) (N := some 8) (v := undef) (a' := ?_) (bitsL 12 63) rfl rfl (any_of HT_.out (by kernel_rfl)) (fun _ _ _ h => h) (Or.inr ⟨by rfl, rfl⟩) ?_ ?_; rotate_left
 ·simp only [Act.put, List.setIfInBounds_toArray, List.set_cons_zero, List.set_cons_succ, i64_w, i32_w]; rfl
 refine pure_ (i := 6) (N := some 9) (v := undef) (a' := ?_) (bitsL 12 127) rfl rfl (any_of HT_.out (by kernel_rfl)) (fun _ _ _ h => h) (Or.inr ⟨by rfl, rfl⟩) ?_ ?_; rotate_left
 ·simp only [Act.put, List.setIfInBounds_toArray, List.set_cons_zero, List.set_cons_succ, i64_w, i32_w]; rfl
 refine pure_ (i := 7) (N := some 10) (v := undef) (a' := ?_) (bitsL 12 255) rfl rfl (any_of HT_.out (by kernel_rfl)) (fun _ _ _ h => h) (Or.inr ⟨by rfl, rfl⟩) ?_ ?_; rotate_left
 ·simp only [Act.put, List.setIfInBounds_toArray, List.set_cons_zero, List.set_cons_succ, i64_w, i32_w]; rfl
 refine pure_ (i := 8) (N := some 11) (v := undef) (a' := ?_) (bitsL 12 511) rfl rfl (any_of HT_.out (by kernel_rfl)) (fun _ _ _ h => h) (Or.inr ⟨by rfl, rfl⟩) ?_ ?_; rotate_left
 ·simp only [Act.put, List.setIfInBounds_toArray, List.set_cons_zero, List.set_cons_succ, i64_w, i32_w]; rfl
 refine pure_ (i := 9) (N := some 12) (v := undef) (a' := ?_) (bitsL 12 1023) rfl rfl (any_of HT_.out (by kernel_rfl)) (fun _ _ _ h => h) (Or.inr ⟨by rfl, rfl⟩) ?_ ?_; rotate_left
 ·simp only [Act.put, List.setIfInBounds_toArray, List.set_cons_zero, List.set_cons_succ, i64_w, i32_w]; rfl
 refine pure_ (i := 10) (N := some 13) (v := ?_) (a' := ?_) (bitsL 12 2047) rfl rfl (any_of HT_.out (by kernel_rfl)) (fun _ _ _ h => h) (Or.inl ⟨by rfl, ?_⟩) ?_ ?_; rotate_left
 ·intro w'; go_simp; with_reducible rfl
 rotate_left
 ·simp only [Act.put, List.setIfInBounds_toArray, List.set_cons_zero, List.set_cons_succ, i64_w, i32_w]; rfl
 refine pure_ (i := 11) (N := some 2) (v := ?_) (a' := ?_) (bitsL 12 4095) rfl rfl (any_of HT_.out (by kernel_rfl)) (fun _ _ _ h => h) (Or.inl ⟨by rfl, ?_⟩) ?_ ?_; rotate_left
 ·intro w'; go_simp; with_reducible rfl
 rotate_left
 ·simp only [Act.put, List.setIfInBounds_toArray, List.set_cons_zero, List.set_cons_succ, i64_w, i32_w]; rfl
 refine done_ (done_of HT_.out (by kernel_rfl)) ?_
 try go_wp2
 go_ret
 exact ⟨ew, bwS⟩

end Go.Proofs.YtnnlhpmkfijppaaGreatDoor.Fn
set_option linter.unusedVariables false
set_option linter.unusedSimpArgs false
namespace Go.Proofs.YtnnlhpmkfijppaaGreatDoor.Pl
open Go.RowKit Go.Proofs.YtnnlhpmkfijppaaGreatDoorW.PrintWords Go.Proofs.YtnnlhpmkfijppaaGreatDoor.Fn

theorem refRight_is (a b : ByteArray) (ha : a.size ≤ 1000000) (hb : b.size ≤ 1000000) (k : Nat) (hk : 3 * a.size + 3 * b.size + 60 ≤ k) : bulletinref13_Right.f k a b = some (right a b) := by
 unfold bulletinref13_Right.f right
 rw [refWhy_is a b ha hb k hk]
 simp only [Option.bind_some]
 by_cases h : why a b = 0
 ·rw [if_pos h, reffold_is b (by omega) k (by omega)]
  simp only [Option.bind_some]
  rw [toList_bs, toList_bs, bs_str]
  have : (fold (bs b) == bs b) = (bs b == fold (bs b)) := by
   rw [Bool.eq_iff_iff, beq_iff_eq, beq_iff_eq]
   exact ⟨fun h => h.symm, fun h => h.symm⟩
  rw [this]
  simp [h]
 rw [if_neg h]
 simp [h]
end Go.Proofs.YtnnlhpmkfijppaaGreatDoor.Pl
namespace Go.Proofs.YtnnlhpmkfijppaaGreatDoor.Fn
open Go.RowKit Go.Proofs.YtnnlhpmkfijppaaGreatDoorW.PrintWords Go.Proofs.YtnnlhpmkfijppaaGreatDoorW.PrintLast Go.Proofs.YtnnlhpmkfijppaaGreatDoorW.PrintMore
attribute [local go_sem] max2_int min2_int max_two min_two max_three min_three max_four min_four
set_option linter.unusedVariables false
set_option linter.unusedSimpArgs false
def bulletinref33_number.f (a0 : Int) : Option (Bool) := if a0 ≥ 0 then (some (decide (a0 ≤ 1099511627776))) else (some false)
set_option maxHeartbeats 8000000 in
set_option maxRecDepth 100000 in
theorem bulletinref33_number.calls (a0 : Int) (r : Bool) (w : World) (h : bulletinref33_number.f a0 = some r) :
  Calls Tryz.prog 42 #[.int .i64 a0] w fun e w' => e = .returned (.bool r) ∧ Drawn0 w w' := by
 have H : (if a0 ≥ 0 then (some (decide (a0 ≤ 1099511627776))) else (some false)) = some r := h; clear h
 by_cases c2 : a0 ≥ 0
 ·rw [if_pos c2] at H; have c2b0 : decide (0 ≤ a0) = true := decide_eq_true c2; clear c2; obtain rfl := Option.some.inj H
  go_enter Tryz.func42, Tryz.ntmps42
  go_wp2
  go_ret
  exact ⟨cl, d0⟩
 rw [if_neg c2] at H; have c2b0 : decide (0 ≤ a0) = false := decide_eq_false c2; clear c2; obtain rfl := Option.some.inj H
 go_enter Tryz.func42, Tryz.ntmps42
 go_wp2
 go_ret
 exact ⟨cl, d0⟩

def bulletinref33_Sound.f (k : Nat) (a0_0 : ByteArray) (a0_1 : ByteArray) (a0_2 : Int) (a0_3 : Bool) (a0_4 : Int) (a0_5 : Int) (a0_6 : Int) (a0_7 : Int) : Option (Bool) := (bulletinref13_Right.f k a0_0 a0_1).bind fun t394 => (if t394 = true then (if a0_2 ≥ 1 then (if a0_2 ≤ 3 then ((bulletinref33_number.f a0_4).bind fun t395 => (if t395 = true then (if a0_5 ≥ (-1) then (if a0_5 ≤ 1099511627776 then ((bulletinref33_number.f a0_6).bind fun t396 => (if t396 = true then ((bulletinref33_number.f a0_7).bind fun t397 => (some t397)) else (some false))) else (some false)) else (some false)) else (some false))) else (some false)) else (some false)) else (some false))
set_option maxHeartbeats 8000000 in
set_option maxRecDepth 100000 in
theorem bulletinref33_Sound.calls (k : Nat) (a0_0 : ByteArray) (a0_1 : ByteArray) (a0_2 : Int) (a0_3 : Bool) (a0_4 : Int) (a0_5 : Int) (a0_6 : Int) (a0_7 : Int) (r : Bool) (w : World) (h : bulletinref33_Sound.f k a0_0 a0_1 a0_2 a0_3 a0_4 a0_5 a0_6 a0_7 = some r) :
  Calls Tryz.prog 12 #[.agg #[.string a0_0, .string a0_1, .int .i64 a0_2, .bool a0_3, .int .i64 a0_4, .int .i64 a0_5, .int .i64 a0_6, .int .i64 a0_7]] w fun e w' => e = .returned (.bool r) ∧ Below w.heap.size w w' := by
 have hu25 := Tryz.underlying25; have hu23 := Tryz.underlying23; have HB := Aside0.mk (Below.refl w.heap.size w); have H : ((bulletinref13_Right.f k a0_0 a0_1).bind fun t394 => (if t394 = true then (if a0_2 ≥ 1 then (if a0_2 ≤ 3 then ((bulletinref33_number.f a0_4).bind fun t395 => (if t395 = true then (if a0_5 ≥ (-1) then (if a0_5 ≤ 1099511627776 then ((bulletinref33_number.f a0_6).bind fun t396 => (if t396 = true then ((bulletinref33_number.f a0_7).bind fun t397 => (some t397)) else (some false))) else (some false)) else (some false)) else (some false))) else (some false)) else (some false)) else (some false))) = some r := h; clear h; replace H := Option.bind_eq_some_iff.mp H; obtain ⟨t394, A20, H⟩ := H; have A2 := Aside0.mk A20; clear A20
 by_cases c3 : t394 = true
 ·subst c3; rw [if_pos rfl] at H
  by_cases c4 : a0_2 ≥ 1
  ·rw [if_pos c4] at H; have c4b0 : decide (1 ≤ a0_2) = true := decide_eq_true c4; clear c4
   by_cases c5 : a0_2 ≤ 3
   ·rw [if_pos c5] at H; have c5b0 := decide_eq_true c5; clear c5; replace H := Option.bind_eq_some_iff.mp H; obtain ⟨t395, A60, H⟩ := H; have A6 := Aside0.mk A60; clear A60
    by_cases c7 : t395 = true
    ·subst c7; rw [if_pos rfl] at H
     by_cases c8 : a0_5 ≥ (-1)
     ·rw [if_pos c8] at H; have c8b0 : decide ((-1) ≤ a0_5) = true := decide_eq_true c8; clear c8
      by_cases c9 : a0_5 ≤ 1099511627776
      ·rw [if_pos c9] at H; have c9b0 := decide_eq_true c9; clear c9; replace H := Option.bind_eq_some_iff.mp H; obtain ⟨t396, A100, H⟩ := H; have A10 := Aside0.mk A100; clear A100
       by_cases c11 : t396 = true
       ·subst c11; rw [if_pos rfl] at H; replace H := Option.bind_eq_some_iff.mp H; obtain ⟨t397, A120, H⟩ := H; have A12 := Aside0.mk A120; clear A120; obtain rfl := Option.some.inj H
        go_enter Tryz.func12, Tryz.ntmps12
        go_wp2_with (first | ((with_reducible refine gate_dst (N := 1) rfl ?_); refine box_event ?hg (N := 1) ?hd (cs := #[.string a0_0, .string a0_1, .int .i64 a0_2, .bool a0_3, .int .i64 a0_4, .int .i64 a0_5, .int .i64 a0_6, .int .i64 a0_7]) (t := 25) ?hr ?_; (case hd => rfl); (case hg => rfl); (case hr => first | (go_simp; done) | (go_simp; rfl)); intro gb393 hg w13 hbox hb; have n0_ := Aside0.mk (below_step bw hb); have n1_ := Aside0.mk (hbox); have n2_ := Aside0.mk ((by rw [hg]; exact (below_size bw) : w.heap.size ≤ gb393)); have n3_ := Aside0.mk ((by rw [hg]; exact (below_size bw) : w.heap.size ≤ gb393)); clear HB; have HB := n0_; have BK393 := n1_; have GW393 := n2_; have GE393 := n3_; clear n0_ n1_ n2_ n3_; clear hb hbox hg; have hcz14_0 : w13.cell? ⟨gb393, 0, none⟩ = some (.string a0_0) := (blk_cell BK393.out 0).trans rfl; have hcz14_1 : w13.cell? ⟨gb393, 1, none⟩ = some (.string a0_1) := (blk_cell BK393.out 1).trans rfl; have hcz14_2 : w13.cell? ⟨gb393, 2, none⟩ = some (.int .i64 a0_2) := (blk_cell BK393.out 2).trans rfl; have hcz14_3 : w13.cell? ⟨gb393, 3, none⟩ = some (.bool a0_3) := (blk_cell BK393.out 3).trans rfl; have hcz14_4 : w13.cell? ⟨gb393, 4, none⟩ = some (.int .i64 a0_4) := (blk_cell BK393.out 4).trans rfl; have hcz14_5 : w13.cell? ⟨gb393, 5, none⟩ = some (.int .i64 a0_5) := (blk_cell BK393.out 5).trans rfl; have hcz14_6 : w13.cell? ⟨gb393, 6, none⟩ = some (.int .i64 a0_6) := (blk_cell BK393.out 6).trans rfl; have hcz14_7 : w13.cell? ⟨gb393, 7, none⟩ = some (.int .i64 a0_7) := (blk_cell BK393.out 7).trans rfl; have hfz14_0 := blk_frozen BK393.out 0; have hfz14_1 := blk_frozen BK393.out 1; have hfz14_2 := blk_frozen BK393.out 2; have hfz14_3 := blk_frozen BK393.out 3; have hfz14_4 := blk_frozen BK393.out 4; have hfz14_5 := blk_frozen BK393.out 5; have hfz14_6 := blk_frozen BK393.out 6; have hfz14_7 := blk_frozen BK393.out 7) | ((with_reducible refine gate_callee (f := 41) rfl ?_); refine goesL_ (some 5) rfl rfl Tryz.func41 (by kernel_rfl) rfl #[.agg #[.string a0_0, .string a0_1]] rfl am ?_; (with_reducible refine (bulletinref13_Right.calls k a0_0 a0_1 true _ A2.out).mono ?_); rintro e w15 ⟨rfl, hb⟩; refine ⟨_, rfl, ?_⟩; have n0_ := Aside0.mk (blk_below (g := gb393) (o := .cells #[.string a0_0, .string a0_1, .int .i64 a0_2, .bool a0_3, .int .i64 a0_4, .int .i64 a0_5, .int .i64 a0_6, .int .i64 a0_7] 25 (0, 0)) bk hb); have n1_ := Aside0.mk (below_step bwS hb); clear BK393; clear HB; have BK393 := n0_; have HB := n1_; clear n0_ n1_; (try clear hb); (try clear hb2); (try clear hk); (try clear hi); have hcz16_0 : w15.cell? ⟨gb393, 0, none⟩ = some (.string a0_0) := (blk_cell BK393.out 0).trans rfl; have hcz16_1 : w15.cell? ⟨gb393, 1, none⟩ = some (.string a0_1) := (blk_cell BK393.out 1).trans rfl; have hcz16_2 : w15.cell? ⟨gb393, 2, none⟩ = some (.int .i64 a0_2) := (blk_cell BK393.out 2).trans rfl; have hcz16_3 : w15.cell? ⟨gb393, 3, none⟩ = some (.bool a0_3) := (blk_cell BK393.out 3).trans rfl; have hcz16_4 : w15.cell? ⟨gb393, 4, none⟩ = some (.int .i64 a0_4) := (blk_cell BK393.out 4).trans rfl; have hcz16_5 : w15.cell? ⟨gb393, 5, none⟩ = some (.int .i64 a0_5) := (blk_cell BK393.out 5).trans rfl; have hcz16_6 : w15.cell? ⟨gb393, 6, none⟩ = some (.int .i64 a0_6) := (blk_cell BK393.out 6).trans rfl; have hcz16_7 : w15.cell? ⟨gb393, 7, none⟩ = some (.int .i64 a0_7) := (blk_cell BK393.out 7).trans rfl; have hfz16_0 := blk_frozen BK393.out 0; have hfz16_1 := blk_frozen BK393.out 1; have hfz16_2 := blk_frozen BK393.out 2; have hfz16_3 := blk_frozen BK393.out 3; have hfz16_4 := blk_frozen BK393.out 4; have hfz16_5 := blk_frozen BK393.out 5; have hfz16_6 := blk_frozen BK393.out 6; have hfz16_7 := blk_frozen BK393.out 7) | (go_at_call 42; (with_reducible refine (bulletinref33_number.calls a0_4 true _ A6.out).mono ?_); rintro e w' ⟨rfl, ⟨nd, rfl⟩⟩) | (go_at_call 42; (with_reducible refine (bulletinref33_number.calls a0_6 true _ A10.out).mono ?_); rintro e w' ⟨rfl, ⟨nd, rfl⟩⟩) | (go_at_call 42; (with_reducible refine (bulletinref33_number.calls a0_7 t397 _ A12.out).mono ?_); rintro e w' ⟨rfl, ⟨nd, rfl⟩⟩))
        go_ret
        exact ⟨ew, bwS⟩
       replace c11 := Bool.eq_false_iff.mpr c11; subst c11; rw [if_neg nft] at H; obtain rfl := Option.some.inj H
       go_enter Tryz.func12, Tryz.ntmps12
       go_wp2_with (first | ((with_reducible refine gate_dst (N := 1) rfl ?_); refine box_event ?hg (N := 1) ?hd (cs := #[.string a0_0, .string a0_1, .int .i64 a0_2, .bool a0_3, .int .i64 a0_4, .int .i64 a0_5, .int .i64 a0_6, .int .i64 a0_7]) (t := 25) ?hr ?_; (case hd => rfl); (case hg => rfl); (case hr => first | (go_simp; done) | (go_simp; rfl)); intro gb393 hg w17 hbox hb; have n0_ := Aside0.mk (below_step bw hb); have n1_ := Aside0.mk (hbox); have n2_ := Aside0.mk ((by rw [hg]; exact (below_size bw) : w.heap.size ≤ gb393)); have n3_ := Aside0.mk ((by rw [hg]; exact (below_size bw) : w.heap.size ≤ gb393)); clear HB; have HB := n0_; have BK393 := n1_; have GW393 := n2_; have GE393 := n3_; clear n0_ n1_ n2_ n3_; clear hb hbox hg; have hcz18_0 : w17.cell? ⟨gb393, 0, none⟩ = some (.string a0_0) := (blk_cell BK393.out 0).trans rfl; have hcz18_1 : w17.cell? ⟨gb393, 1, none⟩ = some (.string a0_1) := (blk_cell BK393.out 1).trans rfl; have hcz18_2 : w17.cell? ⟨gb393, 2, none⟩ = some (.int .i64 a0_2) := (blk_cell BK393.out 2).trans rfl; have hcz18_3 : w17.cell? ⟨gb393, 3, none⟩ = some (.bool a0_3) := (blk_cell BK393.out 3).trans rfl; have hcz18_4 : w17.cell? ⟨gb393, 4, none⟩ = some (.int .i64 a0_4) := (blk_cell BK393.out 4).trans rfl; have hcz18_5 : w17.cell? ⟨gb393, 5, none⟩ = some (.int .i64 a0_5) := (blk_cell BK393.out 5).trans rfl; have hcz18_6 : w17.cell? ⟨gb393, 6, none⟩ = some (.int .i64 a0_6) := (blk_cell BK393.out 6).trans rfl; have hcz18_7 : w17.cell? ⟨gb393, 7, none⟩ = some (.int .i64 a0_7) := (blk_cell BK393.out 7).trans rfl; have hfz18_0 := blk_frozen BK393.out 0; have hfz18_1 := blk_frozen BK393.out 1; have hfz18_2 := blk_frozen BK393.out 2; have hfz18_3 := blk_frozen BK393.out 3; have hfz18_4 := blk_frozen BK393.out 4; have hfz18_5 := blk_frozen BK393.out 5; have hfz18_6 := blk_frozen BK393.out 6; have hfz18_7 := blk_frozen BK393.out 7) | ((with_reducible refine gate_callee (f := 41) rfl ?_); refine goesL_ (some 5) rfl rfl Tryz.func41 (by kernel_rfl) rfl #[.agg #[.string a0_0, .string a0_1]] rfl am ?_; (with_reducible refine (bulletinref13_Right.calls k a0_0 a0_1 true _ A2.out).mono ?_); rintro e w19 ⟨rfl, hb⟩; refine ⟨_, rfl, ?_⟩; have n0_ := Aside0.mk (blk_below (g := gb393) (o := .cells #[.string a0_0, .string a0_1, .int .i64 a0_2, .bool a0_3, .int .i64 a0_4, .int .i64 a0_5, .int .i64 a0_6, .int .i64 a0_7] 25 (0, 0)) bk hb); have n1_ := Aside0.mk (below_step bwS hb); clear BK393; clear HB; have BK393 := n0_; have HB := n1_; clear n0_ n1_; (try clear hb); (try clear hb2); (try clear hk); (try clear hi); have hcz20_0 : w19.cell? ⟨gb393, 0, none⟩ = some (.string a0_0) := (blk_cell BK393.out 0).trans rfl; have hcz20_1 : w19.cell? ⟨gb393, 1, none⟩ = some (.string a0_1) := (blk_cell BK393.out 1).trans rfl; have hcz20_2 : w19.cell? ⟨gb393, 2, none⟩ = some (.int .i64 a0_2) := (blk_cell BK393.out 2).trans rfl; have hcz20_3 : w19.cell? ⟨gb393, 3, none⟩ = some (.bool a0_3) := (blk_cell BK393.out 3).trans rfl; have hcz20_4 : w19.cell? ⟨gb393, 4, none⟩ = some (.int .i64 a0_4) := (blk_cell BK393.out 4).trans rfl; have hcz20_5 : w19.cell? ⟨gb393, 5, none⟩ = some (.int .i64 a0_5) := (blk_cell BK393.out 5).trans rfl; have hcz20_6 : w19.cell? ⟨gb393, 6, none⟩ = some (.int .i64 a0_6) := (blk_cell BK393.out 6).trans rfl; have hcz20_7 : w19.cell? ⟨gb393, 7, none⟩ = some (.int .i64 a0_7) := (blk_cell BK393.out 7).trans rfl; have hfz20_0 := blk_frozen BK393.out 0; have hfz20_1 := blk_frozen BK393.out 1; have hfz20_2 := blk_frozen BK393.out 2; have hfz20_3 := blk_frozen BK393.out 3; have hfz20_4 := blk_frozen BK393.out 4; have hfz20_5 := blk_frozen BK393.out 5; have hfz20_6 := blk_frozen BK393.out 6; have hfz20_7 := blk_frozen BK393.out 7) | (go_at_call 42; (with_reducible refine (bulletinref33_number.calls a0_4 true _ A6.out).mono ?_); rintro e w' ⟨rfl, ⟨nd, rfl⟩⟩) | (go_at_call 42; (with_reducible refine (bulletinref33_number.calls a0_6 false _ A10.out).mono ?_); rintro e w' ⟨rfl, ⟨nd, rfl⟩⟩))
       go_ret
       exact ⟨ew, bwS⟩
      rw [if_neg c9] at H; have c9b0 := decide_eq_false c9; clear c9; obtain rfl := Option.some.inj H
      go_enter Tryz.func12, Tryz.ntmps12
      go_wp2_with (first | ((with_reducible refine gate_dst (N := 1) rfl ?_); refine box_event ?hg (N := 1) ?hd (cs := #[.string a0_0, .string a0_1, .int .i64 a0_2, .bool a0_3, .int .i64 a0_4, .int .i64 a0_5, .int .i64 a0_6, .int .i64 a0_7]) (t := 25) ?hr ?_; (case hd => rfl); (case hg => rfl); (case hr => first | (go_simp; done) | (go_simp; rfl)); intro gb393 hg w21 hbox hb; have n0_ := Aside0.mk (below_step bw hb); have n1_ := Aside0.mk (hbox); have n2_ := Aside0.mk ((by rw [hg]; exact (below_size bw) : w.heap.size ≤ gb393)); have n3_ := Aside0.mk ((by rw [hg]; exact (below_size bw) : w.heap.size ≤ gb393)); clear HB; have HB := n0_; have BK393 := n1_; have GW393 := n2_; have GE393 := n3_; clear n0_ n1_ n2_ n3_; clear hb hbox hg; have hcz22_0 : w21.cell? ⟨gb393, 0, none⟩ = some (.string a0_0) := (blk_cell BK393.out 0).trans rfl; have hcz22_1 : w21.cell? ⟨gb393, 1, none⟩ = some (.string a0_1) := (blk_cell BK393.out 1).trans rfl; have hcz22_2 : w21.cell? ⟨gb393, 2, none⟩ = some (.int .i64 a0_2) := (blk_cell BK393.out 2).trans rfl; have hcz22_3 : w21.cell? ⟨gb393, 3, none⟩ = some (.bool a0_3) := (blk_cell BK393.out 3).trans rfl; have hcz22_4 : w21.cell? ⟨gb393, 4, none⟩ = some (.int .i64 a0_4) := (blk_cell BK393.out 4).trans rfl; have hcz22_5 : w21.cell? ⟨gb393, 5, none⟩ = some (.int .i64 a0_5) := (blk_cell BK393.out 5).trans rfl; have hcz22_6 : w21.cell? ⟨gb393, 6, none⟩ = some (.int .i64 a0_6) := (blk_cell BK393.out 6).trans rfl; have hcz22_7 : w21.cell? ⟨gb393, 7, none⟩ = some (.int .i64 a0_7) := (blk_cell BK393.out 7).trans rfl; have hfz22_0 := blk_frozen BK393.out 0; have hfz22_1 := blk_frozen BK393.out 1; have hfz22_2 := blk_frozen BK393.out 2; have hfz22_3 := blk_frozen BK393.out 3; have hfz22_4 := blk_frozen BK393.out 4; have hfz22_5 := blk_frozen BK393.out 5; have hfz22_6 := blk_frozen BK393.out 6; have hfz22_7 := blk_frozen BK393.out 7) | ((with_reducible refine gate_callee (f := 41) rfl ?_); refine goesL_ (some 5) rfl rfl Tryz.func41 (by kernel_rfl) rfl #[.agg #[.string a0_0, .string a0_1]] rfl am ?_; (with_reducible refine (bulletinref13_Right.calls k a0_0 a0_1 true _ A2.out).mono ?_); rintro e w23 ⟨rfl, hb⟩; refine ⟨_, rfl, ?_⟩; have n0_ := Aside0.mk (blk_below (g := gb393) (o := .cells #[.string a0_0, .string a0_1, .int .i64 a0_2, .bool a0_3, .int .i64 a0_4, .int .i64 a0_5, .int .i64 a0_6, .int .i64 a0_7] 25 (0, 0)) bk hb); have n1_ := Aside0.mk (below_step bwS hb); clear BK393; clear HB; have BK393 := n0_; have HB := n1_; clear n0_ n1_; (try clear hb); (try clear hb2); (try clear hk); (try clear hi); have hcz24_0 : w23.cell? ⟨gb393, 0, none⟩ = some (.string a0_0) := (blk_cell BK393.out 0).trans rfl; have hcz24_1 : w23.cell? ⟨gb393, 1, none⟩ = some (.string a0_1) := (blk_cell BK393.out 1).trans rfl; have hcz24_2 : w23.cell? ⟨gb393, 2, none⟩ = some (.int .i64 a0_2) := (blk_cell BK393.out 2).trans rfl; have hcz24_3 : w23.cell? ⟨gb393, 3, none⟩ = some (.bool a0_3) := (blk_cell BK393.out 3).trans rfl; have hcz24_4 : w23.cell? ⟨gb393, 4, none⟩ = some (.int .i64 a0_4) := (blk_cell BK393.out 4).trans rfl; have hcz24_5 : w23.cell? ⟨gb393, 5, none⟩ = some (.int .i64 a0_5) := (blk_cell BK393.out 5).trans rfl; have hcz24_6 : w23.cell? ⟨gb393, 6, none⟩ = some (.int .i64 a0_6) := (blk_cell BK393.out 6).trans rfl; have hcz24_7 : w23.cell? ⟨gb393, 7, none⟩ = some (.int .i64 a0_7) := (blk_cell BK393.out 7).trans rfl; have hfz24_0 := blk_frozen BK393.out 0; have hfz24_1 := blk_frozen BK393.out 1; have hfz24_2 := blk_frozen BK393.out 2; have hfz24_3 := blk_frozen BK393.out 3; have hfz24_4 := blk_frozen BK393.out 4; have hfz24_5 := blk_frozen BK393.out 5; have hfz24_6 := blk_frozen BK393.out 6; have hfz24_7 := blk_frozen BK393.out 7) | (go_at_call 42; (with_reducible refine (bulletinref33_number.calls a0_4 true _ A6.out).mono ?_); rintro e w' ⟨rfl, ⟨nd, rfl⟩⟩))
      go_ret
      exact ⟨ew, bwS⟩
     rw [if_neg c8] at H; have c8b0 : decide ((-1) ≤ a0_5) = false := decide_eq_false c8; clear c8; obtain rfl := Option.some.inj H
     go_enter Tryz.func12, Tryz.ntmps12
     go_wp2_with (first | ((with_reducible refine gate_dst (N := 1) rfl ?_); refine box_event ?hg (N := 1) ?hd (cs := #[.string a0_0, .string a0_1, .int .i64 a0_2, .bool a0_3, .int .i64 a0_4, .int .i64 a0_5, .int .i64 a0_6, .int .i64 a0_7]) (t := 25) ?hr ?_; (case hd => rfl); (case hg => rfl); (case hr => first | (go_simp; done) | (go_simp; rfl)); intro gb393 hg w25 hbox hb; have n0_ := Aside0.mk (below_step bw hb); have n1_ := Aside0.mk (hbox); have n2_ := Aside0.mk ((by rw [hg]; exact (below_size bw) : w.heap.size ≤ gb393)); have n3_ := Aside0.mk ((by rw [hg]; exact (below_size bw) : w.heap.size ≤ gb393)); clear HB; have HB := n0_; have BK393 := n1_; have GW393 := n2_; have GE393 := n3_; clear n0_ n1_ n2_ n3_; clear hb hbox hg; have hcz26_0 : w25.cell? ⟨gb393, 0, none⟩ = some (.string a0_0) := (blk_cell BK393.out 0).trans rfl; have hcz26_1 : w25.cell? ⟨gb393, 1, none⟩ = some (.string a0_1) := (blk_cell BK393.out 1).trans rfl; have hcz26_2 : w25.cell? ⟨gb393, 2, none⟩ = some (.int .i64 a0_2) := (blk_cell BK393.out 2).trans rfl; have hcz26_3 : w25.cell? ⟨gb393, 3, none⟩ = some (.bool a0_3) := (blk_cell BK393.out 3).trans rfl; have hcz26_4 : w25.cell? ⟨gb393, 4, none⟩ = some (.int .i64 a0_4) := (blk_cell BK393.out 4).trans rfl; have hcz26_5 : w25.cell? ⟨gb393, 5, none⟩ = some (.int .i64 a0_5) := (blk_cell BK393.out 5).trans rfl; have hcz26_6 : w25.cell? ⟨gb393, 6, none⟩ = some (.int .i64 a0_6) := (blk_cell BK393.out 6).trans rfl; have hcz26_7 : w25.cell? ⟨gb393, 7, none⟩ = some (.int .i64 a0_7) := (blk_cell BK393.out 7).trans rfl; have hfz26_0 := blk_frozen BK393.out 0; have hfz26_1 := blk_frozen BK393.out 1; have hfz26_2 := blk_frozen BK393.out 2; have hfz26_3 := blk_frozen BK393.out 3; have hfz26_4 := blk_frozen BK393.out 4; have hfz26_5 := blk_frozen BK393.out 5; have hfz26_6 := blk_frozen BK393.out 6; have hfz26_7 := blk_frozen BK393.out 7) | ((with_reducible refine gate_callee (f := 41) rfl ?_); refine goesL_ (some 5) rfl rfl Tryz.func41 (by kernel_rfl) rfl #[.agg #[.string a0_0, .string a0_1]] rfl am ?_; (with_reducible refine (bulletinref13_Right.calls k a0_0 a0_1 true _ A2.out).mono ?_); rintro e w27 ⟨rfl, hb⟩; refine ⟨_, rfl, ?_⟩; have n0_ := Aside0.mk (blk_below (g := gb393) (o := .cells #[.string a0_0, .string a0_1, .int .i64 a0_2, .bool a0_3, .int .i64 a0_4, .int .i64 a0_5, .int .i64 a0_6, .int .i64 a0_7] 25 (0, 0)) bk hb); have n1_ := Aside0.mk (below_step bwS hb); clear BK393; clear HB; have BK393 := n0_; have HB := n1_; clear n0_ n1_; (try clear hb); (try clear hb2); (try clear hk); (try clear hi); have hcz28_0 : w27.cell? ⟨gb393, 0, none⟩ = some (.string a0_0) := (blk_cell BK393.out 0).trans rfl; have hcz28_1 : w27.cell? ⟨gb393, 1, none⟩ = some (.string a0_1) := (blk_cell BK393.out 1).trans rfl; have hcz28_2 : w27.cell? ⟨gb393, 2, none⟩ = some (.int .i64 a0_2) := (blk_cell BK393.out 2).trans rfl; have hcz28_3 : w27.cell? ⟨gb393, 3, none⟩ = some (.bool a0_3) := (blk_cell BK393.out 3).trans rfl; have hcz28_4 : w27.cell? ⟨gb393, 4, none⟩ = some (.int .i64 a0_4) := (blk_cell BK393.out 4).trans rfl; have hcz28_5 : w27.cell? ⟨gb393, 5, none⟩ = some (.int .i64 a0_5) := (blk_cell BK393.out 5).trans rfl; have hcz28_6 : w27.cell? ⟨gb393, 6, none⟩ = some (.int .i64 a0_6) := (blk_cell BK393.out 6).trans rfl; have hcz28_7 : w27.cell? ⟨gb393, 7, none⟩ = some (.int .i64 a0_7) := (blk_cell BK393.out 7).trans rfl; have hfz28_0 := blk_frozen BK393.out 0; have hfz28_1 := blk_frozen BK393.out 1; have hfz28_2 := blk_frozen BK393.out 2; have hfz28_3 := blk_frozen BK393.out 3; have hfz28_4 := blk_frozen BK393.out 4; have hfz28_5 := blk_frozen BK393.out 5; have hfz28_6 := blk_frozen BK393.out 6; have hfz28_7 := blk_frozen BK393.out 7) | (go_at_call 42; (with_reducible refine (bulletinref33_number.calls a0_4 true _ A6.out).mono ?_); rintro e w' ⟨rfl, ⟨nd, rfl⟩⟩))
     go_ret
     exact ⟨ew, bwS⟩
    replace c7 := Bool.eq_false_iff.mpr c7; subst c7; rw [if_neg nft] at H; obtain rfl := Option.some.inj H
    go_enter Tryz.func12, Tryz.ntmps12
    go_wp2_with (first | ((with_reducible refine gate_dst (N := 1) rfl ?_); refine box_event ?hg (N := 1) ?hd (cs := #[.string a0_0, .string a0_1, .int .i64 a0_2, .bool a0_3, .int .i64 a0_4, .int .i64 a0_5, .int .i64 a0_6, .int .i64 a0_7]) (t := 25) ?hr ?_; (case hd => rfl); (case hg => rfl); (case hr => first | (go_simp; done) | (go_simp; rfl)); intro gb393 hg w29 hbox hb; have n0_ := Aside0.mk (below_step bw hb); have n1_ := Aside0.mk (hbox); have n2_ := Aside0.mk ((by rw [hg]; exact (below_size bw) : w.heap.size ≤ gb393)); have n3_ := Aside0.mk ((by rw [hg]; exact (below_size bw) : w.heap.size ≤ gb393)); clear HB; have HB := n0_; have BK393 := n1_; have GW393 := n2_; have GE393 := n3_; clear n0_ n1_ n2_ n3_; clear hb hbox hg; have hcz30_0 : w29.cell? ⟨gb393, 0, none⟩ = some (.string a0_0) := (blk_cell BK393.out 0).trans rfl; have hcz30_1 : w29.cell? ⟨gb393, 1, none⟩ = some (.string a0_1) := (blk_cell BK393.out 1).trans rfl; have hcz30_2 : w29.cell? ⟨gb393, 2, none⟩ = some (.int .i64 a0_2) := (blk_cell BK393.out 2).trans rfl; have hcz30_3 : w29.cell? ⟨gb393, 3, none⟩ = some (.bool a0_3) := (blk_cell BK393.out 3).trans rfl; have hcz30_4 : w29.cell? ⟨gb393, 4, none⟩ = some (.int .i64 a0_4) := (blk_cell BK393.out 4).trans rfl; have hcz30_5 : w29.cell? ⟨gb393, 5, none⟩ = some (.int .i64 a0_5) := (blk_cell BK393.out 5).trans rfl; have hcz30_6 : w29.cell? ⟨gb393, 6, none⟩ = some (.int .i64 a0_6) := (blk_cell BK393.out 6).trans rfl; have hcz30_7 : w29.cell? ⟨gb393, 7, none⟩ = some (.int .i64 a0_7) := (blk_cell BK393.out 7).trans rfl; have hfz30_0 := blk_frozen BK393.out 0; have hfz30_1 := blk_frozen BK393.out 1; have hfz30_2 := blk_frozen BK393.out 2; have hfz30_3 := blk_frozen BK393.out 3; have hfz30_4 := blk_frozen BK393.out 4; have hfz30_5 := blk_frozen BK393.out 5; have hfz30_6 := blk_frozen BK393.out 6; have hfz30_7 := blk_frozen BK393.out 7) | ((with_reducible refine gate_callee (f := 41) rfl ?_); refine goesL_ (some 5) rfl rfl Tryz.func41 (by kernel_rfl) rfl #[.agg #[.string a0_0, .string a0_1]] rfl am ?_; (with_reducible refine (bulletinref13_Right.calls k a0_0 a0_1 true _ A2.out).mono ?_); rintro e w31 ⟨rfl, hb⟩; refine ⟨_, rfl, ?_⟩; have n0_ := Aside0.mk (blk_below (g := gb393) (o := .cells #[.string a0_0, .string a0_1, .int .i64 a0_2, .bool a0_3, .int .i64 a0_4, .int .i64 a0_5, .int .i64 a0_6, .int .i64 a0_7] 25 (0, 0)) bk hb); have n1_ := Aside0.mk (below_step bwS hb); clear BK393; clear HB; have BK393 := n0_; have HB := n1_; clear n0_ n1_; (try clear hb); (try clear hb2); (try clear hk); (try clear hi); have hcz32_0 : w31.cell? ⟨gb393, 0, none⟩ = some (.string a0_0) := (blk_cell BK393.out 0).trans rfl; have hcz32_1 : w31.cell? ⟨gb393, 1, none⟩ = some (.string a0_1) := (blk_cell BK393.out 1).trans rfl; have hcz32_2 : w31.cell? ⟨gb393, 2, none⟩ = some (.int .i64 a0_2) := (blk_cell BK393.out 2).trans rfl; have hcz32_3 : w31.cell? ⟨gb393, 3, none⟩ = some (.bool a0_3) := (blk_cell BK393.out 3).trans rfl; have hcz32_4 : w31.cell? ⟨gb393, 4, none⟩ = some (.int .i64 a0_4) := (blk_cell BK393.out 4).trans rfl; have hcz32_5 : w31.cell? ⟨gb393, 5, none⟩ = some (.int .i64 a0_5) := (blk_cell BK393.out 5).trans rfl; have hcz32_6 : w31.cell? ⟨gb393, 6, none⟩ = some (.int .i64 a0_6) := (blk_cell BK393.out 6).trans rfl; have hcz32_7 : w31.cell? ⟨gb393, 7, none⟩ = some (.int .i64 a0_7) := (blk_cell BK393.out 7).trans rfl; have hfz32_0 := blk_frozen BK393.out 0; have hfz32_1 := blk_frozen BK393.out 1; have hfz32_2 := blk_frozen BK393.out 2; have hfz32_3 := blk_frozen BK393.out 3; have hfz32_4 := blk_frozen BK393.out 4; have hfz32_5 := blk_frozen BK393.out 5; have hfz32_6 := blk_frozen BK393.out 6; have hfz32_7 := blk_frozen BK393.out 7) | (go_at_call 42; (with_reducible refine (bulletinref33_number.calls a0_4 false _ A6.out).mono ?_); rintro e w' ⟨rfl, ⟨nd, rfl⟩⟩))
    go_ret
    exact ⟨ew, bwS⟩
   rw [if_neg c5] at H; have c5b0 := decide_eq_false c5; clear c5; obtain rfl := Option.some.inj H
   go_enter Tryz.func12, Tryz.ntmps12
   go_wp2_with (first | ((with_reducible refine gate_dst (N := 1) rfl ?_); refine box_event ?hg (N := 1) ?hd (cs := #[.string a0_0, .string a0_1, .int .i64 a0_2, .bool a0_3, .int .i64 a0_4, .int .i64 a0_5, .int .i64 a0_6, .int .i64 a0_7]) (t := 25) ?hr ?_; (case hd => rfl); (case hg => rfl); (case hr => first | (go_simp; done) | (go_simp; rfl)); intro gb393 hg w33 hbox hb; have n0_ := Aside0.mk (below_step bw hb); have n1_ := Aside0.mk (hbox); have n2_ := Aside0.mk ((by rw [hg]; exact (below_size bw) : w.heap.size ≤ gb393)); have n3_ := Aside0.mk ((by rw [hg]; exact (below_size bw) : w.heap.size ≤ gb393)); clear HB; have HB := n0_; have BK393 := n1_; have GW393 := n2_; have GE393 := n3_; clear n0_ n1_ n2_ n3_; clear hb hbox hg; have hcz34_0 : w33.cell? ⟨gb393, 0, none⟩ = some (.string a0_0) := (blk_cell BK393.out 0).trans rfl; have hcz34_1 : w33.cell? ⟨gb393, 1, none⟩ = some (.string a0_1) := (blk_cell BK393.out 1).trans rfl; have hcz34_2 : w33.cell? ⟨gb393, 2, none⟩ = some (.int .i64 a0_2) := (blk_cell BK393.out 2).trans rfl; have hcz34_3 : w33.cell? ⟨gb393, 3, none⟩ = some (.bool a0_3) := (blk_cell BK393.out 3).trans rfl; have hcz34_4 : w33.cell? ⟨gb393, 4, none⟩ = some (.int .i64 a0_4) := (blk_cell BK393.out 4).trans rfl; have hcz34_5 : w33.cell? ⟨gb393, 5, none⟩ = some (.int .i64 a0_5) := (blk_cell BK393.out 5).trans rfl; have hcz34_6 : w33.cell? ⟨gb393, 6, none⟩ = some (.int .i64 a0_6) := (blk_cell BK393.out 6).trans rfl; have hcz34_7 : w33.cell? ⟨gb393, 7, none⟩ = some (.int .i64 a0_7) := (blk_cell BK393.out 7).trans rfl; have hfz34_0 := blk_frozen BK393.out 0; have hfz34_1 := blk_frozen BK393.out 1; have hfz34_2 := blk_frozen BK393.out 2; have hfz34_3 := blk_frozen BK393.out 3; have hfz34_4 := blk_frozen BK393.out 4; have hfz34_5 := blk_frozen BK393.out 5; have hfz34_6 := blk_frozen BK393.out 6; have hfz34_7 := blk_frozen BK393.out 7) | ((with_reducible refine gate_callee (f := 41) rfl ?_); refine goesL_ (some 5) rfl rfl Tryz.func41 (by kernel_rfl) rfl #[.agg #[.string a0_0, .string a0_1]] rfl am ?_; (with_reducible refine (bulletinref13_Right.calls k a0_0 a0_1 true _ A2.out).mono ?_); rintro e w35 ⟨rfl, hb⟩; refine ⟨_, rfl, ?_⟩; have n0_ := Aside0.mk (blk_below (g := gb393) (o := .cells #[.string a0_0, .string a0_1, .int .i64 a0_2, .bool a0_3, .int .i64 a0_4, .int .i64 a0_5, .int .i64 a0_6, .int .i64 a0_7] 25 (0, 0)) bk hb); have n1_ := Aside0.mk (below_step bwS hb); clear BK393; clear HB; have BK393 := n0_; have HB := n1_; clear n0_ n1_; (try clear hb); (try clear hb2); (try clear hk); (try clear hi); have hcz36_0 : w35.cell? ⟨gb393, 0, none⟩ = some (.string a0_0) := (blk_cell BK393.out 0).trans rfl; have hcz36_1 : w35.cell? ⟨gb393, 1, none⟩ = some (.string a0_1) := (blk_cell BK393.out 1).trans rfl; have hcz36_2 : w35.cell? ⟨gb393, 2, none⟩ = some (.int .i64 a0_2) := (blk_cell BK393.out 2).trans rfl; have hcz36_3 : w35.cell? ⟨gb393, 3, none⟩ = some (.bool a0_3) := (blk_cell BK393.out 3).trans rfl; have hcz36_4 : w35.cell? ⟨gb393, 4, none⟩ = some (.int .i64 a0_4) := (blk_cell BK393.out 4).trans rfl; have hcz36_5 : w35.cell? ⟨gb393, 5, none⟩ = some (.int .i64 a0_5) := (blk_cell BK393.out 5).trans rfl; have hcz36_6 : w35.cell? ⟨gb393, 6, none⟩ = some (.int .i64 a0_6) := (blk_cell BK393.out 6).trans rfl; have hcz36_7 : w35.cell? ⟨gb393, 7, none⟩ = some (.int .i64 a0_7) := (blk_cell BK393.out 7).trans rfl; have hfz36_0 := blk_frozen BK393.out 0; have hfz36_1 := blk_frozen BK393.out 1; have hfz36_2 := blk_frozen BK393.out 2; have hfz36_3 := blk_frozen BK393.out 3; have hfz36_4 := blk_frozen BK393.out 4; have hfz36_5 := blk_frozen BK393.out 5; have hfz36_6 := blk_frozen BK393.out 6; have hfz36_7 := blk_frozen BK393.out 7))
   go_ret
   exact ⟨ew, bwS⟩
  rw [if_neg c4] at H; have c4b0 : decide (1 ≤ a0_2) = false := decide_eq_false c4; clear c4; obtain rfl := Option.some.inj H
  go_enter Tryz.func12, Tryz.ntmps12
  go_wp2_with (first | ((with_reducible refine gate_dst (N := 1) rfl ?_); refine box_event ?hg (N := 1) ?hd (cs := #[.string a0_0, .string a0_1, .int .i64 a0_2, .bool a0_3, .int .i64 a0_4, .int .i64 a0_5, .int .i64 a0_6, .int .i64 a0_7]) (t := 25) ?hr ?_; (case hd => rfl); (case hg => rfl); (case hr => first | (go_simp; done) | (go_simp; rfl)); intro gb393 hg w37 hbox hb; have n0_ := Aside0.mk (below_step bw hb); have n1_ := Aside0.mk (hbox); have n2_ := Aside0.mk ((by rw [hg]; exact (below_size bw) : w.heap.size ≤ gb393)); have n3_ := Aside0.mk ((by rw [hg]; exact (below_size bw) : w.heap.size ≤ gb393)); clear HB; have HB := n0_; have BK393 := n1_; have GW393 := n2_; have GE393 := n3_; clear n0_ n1_ n2_ n3_; clear hb hbox hg; have hcz38_0 : w37.cell? ⟨gb393, 0, none⟩ = some (.string a0_0) := (blk_cell BK393.out 0).trans rfl; have hcz38_1 : w37.cell? ⟨gb393, 1, none⟩ = some (.string a0_1) := (blk_cell BK393.out 1).trans rfl; have hcz38_2 : w37.cell? ⟨gb393, 2, none⟩ = some (.int .i64 a0_2) := (blk_cell BK393.out 2).trans rfl; have hcz38_3 : w37.cell? ⟨gb393, 3, none⟩ = some (.bool a0_3) := (blk_cell BK393.out 3).trans rfl; have hcz38_4 : w37.cell? ⟨gb393, 4, none⟩ = some (.int .i64 a0_4) := (blk_cell BK393.out 4).trans rfl; have hcz38_5 : w37.cell? ⟨gb393, 5, none⟩ = some (.int .i64 a0_5) := (blk_cell BK393.out 5).trans rfl; have hcz38_6 : w37.cell? ⟨gb393, 6, none⟩ = some (.int .i64 a0_6) := (blk_cell BK393.out 6).trans rfl; have hcz38_7 : w37.cell? ⟨gb393, 7, none⟩ = some (.int .i64 a0_7) := (blk_cell BK393.out 7).trans rfl; have hfz38_0 := blk_frozen BK393.out 0; have hfz38_1 := blk_frozen BK393.out 1; have hfz38_2 := blk_frozen BK393.out 2; have hfz38_3 := blk_frozen BK393.out 3; have hfz38_4 := blk_frozen BK393.out 4; have hfz38_5 := blk_frozen BK393.out 5; have hfz38_6 := blk_frozen BK393.out 6; have hfz38_7 := blk_frozen BK393.out 7) | ((with_reducible refine gate_callee (f := 41) rfl ?_); refine goesL_ (some 5) rfl rfl Tryz.func41 (by kernel_rfl) rfl #[.agg #[.string a0_0, .string a0_1]] rfl am ?_; (with_reducible refine (bulletinref13_Right.calls k a0_0 a0_1 true _ A2.out).mono ?_); rintro e w39 ⟨rfl, hb⟩; refine ⟨_, rfl, ?_⟩; have n0_ := Aside0.mk (blk_below (g := gb393) (o := .cells #[.string a0_0, .string a0_1, .int .i64 a0_2, .bool a0_3, .int .i64 a0_4, .int .i64 a0_5, .int .i64 a0_6, .int .i64 a0_7] 25 (0, 0)) bk hb); have n1_ := Aside0.mk (below_step bwS hb); clear BK393; clear HB; have BK393 := n0_; have HB := n1_; clear n0_ n1_; (try clear hb); (try clear hb2); (try clear hk); (try clear hi); have hcz40_0 : w39.cell? ⟨gb393, 0, none⟩ = some (.string a0_0) := (blk_cell BK393.out 0).trans rfl; have hcz40_1 : w39.cell? ⟨gb393, 1, none⟩ = some (.string a0_1) := (blk_cell BK393.out 1).trans rfl; have hcz40_2 : w39.cell? ⟨gb393, 2, none⟩ = some (.int .i64 a0_2) := (blk_cell BK393.out 2).trans rfl; have hcz40_3 : w39.cell? ⟨gb393, 3, none⟩ = some (.bool a0_3) := (blk_cell BK393.out 3).trans rfl; have hcz40_4 : w39.cell? ⟨gb393, 4, none⟩ = some (.int .i64 a0_4) := (blk_cell BK393.out 4).trans rfl; have hcz40_5 : w39.cell? ⟨gb393, 5, none⟩ = some (.int .i64 a0_5) := (blk_cell BK393.out 5).trans rfl; have hcz40_6 : w39.cell? ⟨gb393, 6, none⟩ = some (.int .i64 a0_6) := (blk_cell BK393.out 6).trans rfl; have hcz40_7 : w39.cell? ⟨gb393, 7, none⟩ = some (.int .i64 a0_7) := (blk_cell BK393.out 7).trans rfl; have hfz40_0 := blk_frozen BK393.out 0; have hfz40_1 := blk_frozen BK393.out 1; have hfz40_2 := blk_frozen BK393.out 2; have hfz40_3 := blk_frozen BK393.out 3; have hfz40_4 := blk_frozen BK393.out 4; have hfz40_5 := blk_frozen BK393.out 5; have hfz40_6 := blk_frozen BK393.out 6; have hfz40_7 := blk_frozen BK393.out 7))
  go_ret
  exact ⟨ew, bwS⟩
 replace c3 := Bool.eq_false_iff.mpr c3; subst c3; rw [if_neg nft] at H; obtain rfl := Option.some.inj H
 go_enter Tryz.func12, Tryz.ntmps12
 go_wp2_with (first | ((with_reducible refine gate_dst (N := 1) rfl ?_); refine box_event ?hg (N := 1) ?hd (cs := #[.string a0_0, .string a0_1, .int .i64 a0_2, .bool a0_3, .int .i64 a0_4, .int .i64 a0_5, .int .i64 a0_6, .int .i64 a0_7]) (t := 25) ?hr ?_; (case hd => rfl); (case hg => rfl); (case hr => first | (go_simp; done) | (go_simp; rfl)); intro gb393 hg w41 hbox hb; have n0_ := Aside0.mk (below_step bw hb); have n1_ := Aside0.mk (hbox); have n2_ := Aside0.mk ((by rw [hg]; exact (below_size bw) : w.heap.size ≤ gb393)); have n3_ := Aside0.mk ((by rw [hg]; exact (below_size bw) : w.heap.size ≤ gb393)); clear HB; have HB := n0_; have BK393 := n1_; have GW393 := n2_; have GE393 := n3_; clear n0_ n1_ n2_ n3_; clear hb hbox hg; have hcz42_0 : w41.cell? ⟨gb393, 0, none⟩ = some (.string a0_0) := (blk_cell BK393.out 0).trans rfl; have hcz42_1 : w41.cell? ⟨gb393, 1, none⟩ = some (.string a0_1) := (blk_cell BK393.out 1).trans rfl; have hcz42_2 : w41.cell? ⟨gb393, 2, none⟩ = some (.int .i64 a0_2) := (blk_cell BK393.out 2).trans rfl; have hcz42_3 : w41.cell? ⟨gb393, 3, none⟩ = some (.bool a0_3) := (blk_cell BK393.out 3).trans rfl; have hcz42_4 : w41.cell? ⟨gb393, 4, none⟩ = some (.int .i64 a0_4) := (blk_cell BK393.out 4).trans rfl; have hcz42_5 : w41.cell? ⟨gb393, 5, none⟩ = some (.int .i64 a0_5) := (blk_cell BK393.out 5).trans rfl; have hcz42_6 : w41.cell? ⟨gb393, 6, none⟩ = some (.int .i64 a0_6) := (blk_cell BK393.out 6).trans rfl; have hcz42_7 : w41.cell? ⟨gb393, 7, none⟩ = some (.int .i64 a0_7) := (blk_cell BK393.out 7).trans rfl; have hfz42_0 := blk_frozen BK393.out 0; have hfz42_1 := blk_frozen BK393.out 1; have hfz42_2 := blk_frozen BK393.out 2; have hfz42_3 := blk_frozen BK393.out 3; have hfz42_4 := blk_frozen BK393.out 4; have hfz42_5 := blk_frozen BK393.out 5; have hfz42_6 := blk_frozen BK393.out 6; have hfz42_7 := blk_frozen BK393.out 7) | ((with_reducible refine gate_callee (f := 41) rfl ?_); refine goesL_ (some 5) rfl rfl Tryz.func41 (by kernel_rfl) rfl #[.agg #[.string a0_0, .string a0_1]] rfl am ?_; (with_reducible refine (bulletinref13_Right.calls k a0_0 a0_1 false _ A2.out).mono ?_); rintro e w43 ⟨rfl, hb⟩; refine ⟨_, rfl, ?_⟩; have n0_ := Aside0.mk (blk_below (g := gb393) (o := .cells #[.string a0_0, .string a0_1, .int .i64 a0_2, .bool a0_3, .int .i64 a0_4, .int .i64 a0_5, .int .i64 a0_6, .int .i64 a0_7] 25 (0, 0)) bk hb); have n1_ := Aside0.mk (below_step bwS hb); clear BK393; clear HB; have BK393 := n0_; have HB := n1_; clear n0_ n1_; (try clear hb); (try clear hb2); (try clear hk); (try clear hi)))
 go_ret
 exact ⟨ew, bwS⟩

def bulletinref33_Gets.f (a0_0 : ByteArray) (a0_1 : ByteArray) (a0_2 : Int) (a0_3 : Bool) (a0_4 : Int) (a0_5 : Int) (a0_6 : Int) (a0_7 : Int) (a1 : Int) : Option (Bool) := if a0_2 = a1 then (some (!a0_3)) else (some false)
set_option maxHeartbeats 8000000 in
set_option maxRecDepth 100000 in
theorem bulletinref33_Gets.calls (a0_0 : ByteArray) (a0_1 : ByteArray) (a0_2 : Int) (a0_3 : Bool) (a0_4 : Int) (a0_5 : Int) (a0_6 : Int) (a0_7 : Int) (a1 : Int) (r : Bool) (w : World) (h : bulletinref33_Gets.f a0_0 a0_1 a0_2 a0_3 a0_4 a0_5 a0_6 a0_7 a1 = some r) :
  Calls Tryz.prog 14 #[.agg #[.string a0_0, .string a0_1, .int .i64 a0_2, .bool a0_3, .int .i64 a0_4, .int .i64 a0_5, .int .i64 a0_6, .int .i64 a0_7], .int .i64 a1] w fun e w' => e = .returned (.bool r) ∧ Below w.heap.size w w' := by
 have hu25 := Tryz.underlying25; have HB := Aside0.mk (Below.refl w.heap.size w); have H : (if a0_2 = a1 then (some (!a0_3)) else (some false)) = some r := h; clear h
 by_cases c3 : a0_2 = a1
 ·rw [if_pos c3] at H; have c3b0 := beq_iff_eq.mpr c3; have c3b1 := bne_eq_false_iff_eq.mpr c3; clear c3; obtain rfl := Option.some.inj H
  go_enter Tryz.func14, Tryz.ntmps14
  go_wp2_with (first | ((with_reducible refine gate_dst (N := 2) rfl ?_); refine box_event ?hg (N := 2) ?hd (cs := #[.string a0_0, .string a0_1, .int .i64 a0_2, .bool a0_3, .int .i64 a0_4, .int .i64 a0_5, .int .i64 a0_6, .int .i64 a0_7]) (t := 25) ?hr ?_; (case hd => rfl); (case hg => rfl); (case hr => first | (go_simp; done) | (go_simp; rfl)); intro gb547 hg w4 hbox hb; have n0_ := Aside0.mk (below_step bw hb); have n1_ := Aside0.mk (hbox); have n2_ := Aside0.mk ((by rw [hg]; exact (below_size bw) : w.heap.size ≤ gb547)); have n3_ := Aside0.mk ((by rw [hg]; exact (below_size bw) : w.heap.size ≤ gb547)); clear HB; have HB := n0_; have BK547 := n1_; have GW547 := n2_; have GE547 := n3_; clear n0_ n1_ n2_ n3_; clear hb hbox hg; have hcz5_0 : w4.cell? ⟨gb547, 0, none⟩ = some (.string a0_0) := (blk_cell BK547.out 0).trans rfl; have hcz5_1 : w4.cell? ⟨gb547, 1, none⟩ = some (.string a0_1) := (blk_cell BK547.out 1).trans rfl; have hcz5_2 : w4.cell? ⟨gb547, 2, none⟩ = some (.int .i64 a0_2) := (blk_cell BK547.out 2).trans rfl; have hcz5_3 : w4.cell? ⟨gb547, 3, none⟩ = some (.bool a0_3) := (blk_cell BK547.out 3).trans rfl; have hcz5_4 : w4.cell? ⟨gb547, 4, none⟩ = some (.int .i64 a0_4) := (blk_cell BK547.out 4).trans rfl; have hcz5_5 : w4.cell? ⟨gb547, 5, none⟩ = some (.int .i64 a0_5) := (blk_cell BK547.out 5).trans rfl; have hcz5_6 : w4.cell? ⟨gb547, 6, none⟩ = some (.int .i64 a0_6) := (blk_cell BK547.out 6).trans rfl; have hcz5_7 : w4.cell? ⟨gb547, 7, none⟩ = some (.int .i64 a0_7) := (blk_cell BK547.out 7).trans rfl; have hfz5_0 := blk_frozen BK547.out 0; have hfz5_1 := blk_frozen BK547.out 1; have hfz5_2 := blk_frozen BK547.out 2; have hfz5_3 := blk_frozen BK547.out 3; have hfz5_4 := blk_frozen BK547.out 4; have hfz5_5 := blk_frozen BK547.out 5; have hfz5_6 := blk_frozen BK547.out 6; have hfz5_7 := blk_frozen BK547.out 7))
  go_ret
  exact ⟨ew, bwS⟩
 rw [if_neg c3] at H; have c3b0 := beq_eq_false_iff_ne.mpr c3; have c3b1 := bne_iff_ne.mpr c3; obtain rfl := Option.some.inj H
 go_enter Tryz.func14, Tryz.ntmps14
 go_wp2_with (first | ((with_reducible refine gate_dst (N := 2) rfl ?_); refine box_event ?hg (N := 2) ?hd (cs := #[.string a0_0, .string a0_1, .int .i64 a0_2, .bool a0_3, .int .i64 a0_4, .int .i64 a0_5, .int .i64 a0_6, .int .i64 a0_7]) (t := 25) ?hr ?_; (case hd => rfl); (case hg => rfl); (case hr => first | (go_simp; done) | (go_simp; rfl)); intro gb547 hg w6 hbox hb; have n0_ := Aside0.mk (below_step bw hb); have n1_ := Aside0.mk (hbox); have n2_ := Aside0.mk ((by rw [hg]; exact (below_size bw) : w.heap.size ≤ gb547)); have n3_ := Aside0.mk ((by rw [hg]; exact (below_size bw) : w.heap.size ≤ gb547)); clear HB; have HB := n0_; have BK547 := n1_; have GW547 := n2_; have GE547 := n3_; clear n0_ n1_ n2_ n3_; clear hb hbox hg; have hcz7_0 : w6.cell? ⟨gb547, 0, none⟩ = some (.string a0_0) := (blk_cell BK547.out 0).trans rfl; have hcz7_1 : w6.cell? ⟨gb547, 1, none⟩ = some (.string a0_1) := (blk_cell BK547.out 1).trans rfl; have hcz7_2 : w6.cell? ⟨gb547, 2, none⟩ = some (.int .i64 a0_2) := (blk_cell BK547.out 2).trans rfl; have hcz7_3 : w6.cell? ⟨gb547, 3, none⟩ = some (.bool a0_3) := (blk_cell BK547.out 3).trans rfl; have hcz7_4 : w6.cell? ⟨gb547, 4, none⟩ = some (.int .i64 a0_4) := (blk_cell BK547.out 4).trans rfl; have hcz7_5 : w6.cell? ⟨gb547, 5, none⟩ = some (.int .i64 a0_5) := (blk_cell BK547.out 5).trans rfl; have hcz7_6 : w6.cell? ⟨gb547, 6, none⟩ = some (.int .i64 a0_6) := (blk_cell BK547.out 6).trans rfl; have hcz7_7 : w6.cell? ⟨gb547, 7, none⟩ = some (.int .i64 a0_7) := (blk_cell BK547.out 7).trans rfl; have hfz7_0 := blk_frozen BK547.out 0; have hfz7_1 := blk_frozen BK547.out 1; have hfz7_2 := blk_frozen BK547.out 2; have hfz7_3 := blk_frozen BK547.out 3; have hfz7_4 := blk_frozen BK547.out 4; have hfz7_5 := blk_frozen BK547.out 5; have hfz7_6 := blk_frozen BK547.out 6; have hfz7_7 := blk_frozen BK547.out 7))
 go_ret
 exact ⟨ew, bwS⟩

def bulletinref33_Bounced.j0 : Nat → Int → Int → Bool → ByteArray → ByteArray → Int → Bool → Int → Int → Int → Int → Option (ByteArray × ByteArray × Int × Bool × Int × Int × Int × Int)
 | 0, _, _, _, _, _, _, _, _, _, _, _ => none
 | k + 1, x1, x2, x14, x549000, x549001, x549002, x549003, x549004, x549005, x549006, x549007 => if x14 = true then (some (x549000, x549001, x549002, x549003, x549004, x549005, x549006, x549007)) else (if x549004 < 1099511627776 then (if (wrap64 (x549004 + 1)) ≥ x2 then (some (x549000, x549001, x549002, true, wrap64 (x549004 + 1), x1, x549006, x549007)) else (some (x549000, x549001, x549002, x549003, wrap64 (x549004 + 1), x1, x549006, x549007))) else (if x549004 ≥ x2 then (some (x549000, x549001, x549002, true, x549004, x1, x549006, x549007)) else (some (x549000, x549001, x549002, x549003, x549004, x1, x549006, x549007))))
def bulletinref33_Bounced.f (k : Nat) (a0_0 : ByteArray) (a0_1 : ByteArray) (a0_2 : Int) (a0_3 : Bool) (a0_4 : Int) (a0_5 : Int) (a0_6 : Int) (a0_7 : Int) (a1 : Int) (a2 : Int) : Option (ByteArray × ByteArray × Int × Bool × Int × Int × Int × Int) := if a0_3 = true then (bulletinref33_Bounced.j0 k a1 a2 true a0_0 a0_1 a0_2 a0_3 a0_4 a0_5 a0_6 a0_7) else (bulletinref33_Bounced.j0 k a1 a2 (a0_5 == a1) a0_0 a0_1 a0_2 a0_3 a0_4 a0_5 a0_6 a0_7)
set_option maxHeartbeats 8000000 in
set_option maxRecDepth 100000 in
theorem bulletinref33_Bounced.calls (k : Nat) (a0_0 : ByteArray) (a0_1 : ByteArray) (a0_2 : Int) (a0_3 : Bool) (a0_4 : Int) (a0_5 : Int) (a0_6 : Int) (a0_7 : Int) (a1 : Int) (a2 : Int) (r1 : ByteArray) (r2 : ByteArray) (r3 : Int) (r4 : Bool) (r5 : Int) (r6 : Int) (r7 : Int) (r8 : Int) (w : World) (h : bulletinref33_Bounced.f k a0_0 a0_1 a0_2 a0_3 a0_4 a0_5 a0_6 a0_7 a1 a2 = some (r1, r2, r3, r4, r5, r6, r7, r8)) :
  Calls Tryz.prog 16 #[.agg #[.string a0_0, .string a0_1, .int .i64 a0_2, .bool a0_3, .int .i64 a0_4, .int .i64 a0_5, .int .i64 a0_6, .int .i64 a0_7], .int .i64 a1, .int .i64 a2] w fun e w' => e = .returned (.agg #[.string r1, .string r2, .int .i64 r3, .bool r4, .int .i64 r5, .int .i64 r6, .int .i64 r7, .int .i64 r8]) ∧ Below w.heap.size w w' := by
 have hu25 := Tryz.underlying25; have HB := Aside0.mk (Below.refl w.heap.size w); have H : (if a0_3 = true then (bulletinref33_Bounced.j0 k a1 a2 true a0_0 a0_1 a0_2 a0_3 a0_4 a0_5 a0_6 a0_7) else (bulletinref33_Bounced.j0 k a1 a2 (a0_5 == a1) a0_0 a0_1 a0_2 a0_3 a0_4 a0_5 a0_6 a0_7)) = some (r1, r2, r3, r4, r5, r6, r7, r8) := h; clear h; have HC4 := Aside0.mk H; clear H
 go_enter Tryz.func16, Tryz.ntmps16
 go_upto_region 1 with (first | ((with_reducible refine gate_dst (N := 3) rfl ?_); refine box_event ?hg (N := 3) ?hd (cs := #[.string a0_0, .string a0_1, .int .i64 a0_2, .bool a0_3, .int .i64 a0_4, .int .i64 a0_5, .int .i64 a0_6, .int .i64 a0_7]) (t := 25) ?hr ?_; (case hd => rfl); (case hg => rfl); (case hr => first | (go_simp; done) | (go_simp; rfl)); intro gb548 hg w5 hbox hb; have n0_ := Aside0.mk (below_step bw hb); have n1_ := Aside0.mk (hbox); have n2_ := Aside0.mk ((by rw [hg]; exact (below_size bw) : w.heap.size ≤ gb548)); have n3_ := Aside0.mk ((by rw [hg]; exact (below_size bw) : w.heap.size ≤ gb548)); clear HB; have HB := n0_; have BK548 := n1_; have GW548 := n2_; have GE548 := n3_; clear n0_ n1_ n2_ n3_; clear hb hbox hg) | ((with_reducible refine gate_dst (N := 6) rfl ?_); refine box_event ?hg (N := 6) ?hd (cs := #[.string (⟨#[]⟩ : ByteArray), .string (⟨#[]⟩ : ByteArray), .int .i64 0, .bool false, .int .i64 0, .int .i64 0, .int .i64 0, .int .i64 0]) (t := 25) ?hr ?_; (case hd => rfl); (case hg => rfl); (case hr => first | (go_simp; done) | (go_simp; rfl)); intro gb549 hg w6 hbox hb; have n0_ := Aside0.mk (blk_below (g := gb548) (o := .cells #[.string a0_0, .string a0_1, .int .i64 a0_2, .bool a0_3, .int .i64 a0_4, .int .i64 a0_5, .int .i64 a0_6, .int .i64 a0_7] 25 (0, 0)) bk hb); have n1_ := Aside0.mk (below_step bwS hb); have n2_ := Aside0.mk (hbox); have n3_ := Aside0.mk ((by rw [hg]; exact (below_size bwS) : w.heap.size ≤ gb549)); have n4_ := Aside0.mk ((by rw [hg]; exact (below_size bwS) : w.heap.size ≤ gb549)); have n5_ := Aside0.mk ((by rw [hg]; exact Nat.ne_of_lt (blk_lt (g := gb548) (o := .cells #[.string a0_0, .string a0_1, .int .i64 a0_2, .bool a0_3, .int .i64 a0_4, .int .i64 a0_5, .int .i64 a0_6, .int .i64 a0_7] 25 (0, 0)) bk) : gb548 ≠ gb549)); have n6_ := Aside0.mk ((by rw [hg]; exact Nat.ne_of_gt (blk_lt (g := gb548) (o := .cells #[.string a0_0, .string a0_1, .int .i64 a0_2, .bool a0_3, .int .i64 a0_4, .int .i64 a0_5, .int .i64 a0_6, .int .i64 a0_7] 25 (0, 0)) bk) : gb549 ≠ gb548)); clear BK548; clear HB; have BK548 := n0_; have HB := n1_; have BK549 := n2_; have GW549 := n3_; have GE549 := n4_; have NB548_549 := n5_; have NB549_548 := n6_; clear n0_ n1_ n2_ n3_ n4_ n5_ n6_; clear hb hbox hg))
 (try simp only [Act.put, List.setIfInBounds_toArray, List.set_cons_zero, List.set_cons_succ])
 go_cut [14] (fun v14 wc => ∃ (kq : Nat) (x14_3 : Bool), v14 = .bool x14_3 ∧ Aside0 (bulletinref33_Bounced.j0 kq a1 a2 x14_3 a0_0 a0_1 a0_2 a0_3 a0_4 a0_5 a0_6 a0_7 = some (r1, r2, r3, r4, r5, r6, r7, r8)) ∧ Aside0 (kq ≤ k) ∧ Aside0 (wc.heap[gb548]? = some (.cells #[.string a0_0, .string a0_1, .int .i64 a0_2, .bool a0_3, .int .i64 a0_4, .int .i64 a0_5, .int .i64 a0_6, .int .i64 a0_7] 25 (0, 0))) ∧ Aside0 (wc.heap[gb549]? = some (.cells #[.string (⟨#[]⟩ : ByteArray), .string (⟨#[]⟩ : ByteArray), .int .i64 0, .bool false, .int .i64 0, .int .i64 0, .int .i64 0, .int .i64 0] 25 (0, 0))) ∧ Aside0 (Below w.heap.size w wc))
 case first =>
  have H := HC4.out; clear HC4
  by_cases c7 : a0_3 = true
  ·subst c7; rw [if_pos rfl] at H; have H' := Aside0.mk H; clear H; have hnb8 := NB548_549.out; have hnc8 := NB549_548.out; have hcz9_0 : w6.cell? ⟨gb548, 0, none⟩ = some (.string a0_0) := (blk_cell BK548.out 0).trans rfl; have hcz9_1 : w6.cell? ⟨gb548, 1, none⟩ = some (.string a0_1) := (blk_cell BK548.out 1).trans rfl; have hcz9_2 : w6.cell? ⟨gb548, 2, none⟩ = some (.int .i64 a0_2) := (blk_cell BK548.out 2).trans rfl; have hcz9_3 : w6.cell? ⟨gb548, 3, none⟩ = some (.bool true) := (blk_cell BK548.out 3).trans rfl; have hcz9_4 : w6.cell? ⟨gb548, 4, none⟩ = some (.int .i64 a0_4) := (blk_cell BK548.out 4).trans rfl; have hcz9_5 : w6.cell? ⟨gb548, 5, none⟩ = some (.int .i64 a0_5) := (blk_cell BK548.out 5).trans rfl; have hcz9_6 : w6.cell? ⟨gb548, 6, none⟩ = some (.int .i64 a0_6) := (blk_cell BK548.out 6).trans rfl; have hcz9_7 : w6.cell? ⟨gb548, 7, none⟩ = some (.int .i64 a0_7) := (blk_cell BK548.out 7).trans rfl; have hfz9_0 := blk_frozen BK548.out 0; have hfz9_1 := blk_frozen BK548.out 1; have hfz9_2 := blk_frozen BK548.out 2; have hfz9_3 := blk_frozen BK548.out 3; have hfz9_4 := blk_frozen BK548.out 4; have hfz9_5 := blk_frozen BK548.out 5; have hfz9_6 := blk_frozen BK548.out 6; have hfz9_7 := blk_frozen BK548.out 7
   go_wp2
   go_meet
   case rel => exact ⟨_, (true), cl, H', ⟨by first | omega | exact Nat.le_refl _⟩, ⟨bk⟩, ⟨bk⟩, ⟨bwS⟩⟩
  replace c7 := Bool.eq_false_iff.mpr c7; subst c7; rw [if_neg nft] at H; have H' := Aside0.mk H; clear H; have hnb10 := NB548_549.out; have hnc10 := NB549_548.out; have hcz11_0 : w6.cell? ⟨gb548, 0, none⟩ = some (.string a0_0) := (blk_cell BK548.out 0).trans rfl; have hcz11_1 : w6.cell? ⟨gb548, 1, none⟩ = some (.string a0_1) := (blk_cell BK548.out 1).trans rfl; have hcz11_2 : w6.cell? ⟨gb548, 2, none⟩ = some (.int .i64 a0_2) := (blk_cell BK548.out 2).trans rfl; have hcz11_3 : w6.cell? ⟨gb548, 3, none⟩ = some (.bool false) := (blk_cell BK548.out 3).trans rfl; have hcz11_4 : w6.cell? ⟨gb548, 4, none⟩ = some (.int .i64 a0_4) := (blk_cell BK548.out 4).trans rfl; have hcz11_5 : w6.cell? ⟨gb548, 5, none⟩ = some (.int .i64 a0_5) := (blk_cell BK548.out 5).trans rfl; have hcz11_6 : w6.cell? ⟨gb548, 6, none⟩ = some (.int .i64 a0_6) := (blk_cell BK548.out 6).trans rfl; have hcz11_7 : w6.cell? ⟨gb548, 7, none⟩ = some (.int .i64 a0_7) := (blk_cell BK548.out 7).trans rfl; have hfz11_0 := blk_frozen BK548.out 0; have hfz11_1 := blk_frozen BK548.out 1; have hfz11_2 := blk_frozen BK548.out 2; have hfz11_3 := blk_frozen BK548.out 3; have hfz11_4 := blk_frozen BK548.out 4; have hfz11_5 := blk_frozen BK548.out 5; have hfz11_6 := blk_frozen BK548.out 6; have hfz11_7 := blk_frozen BK548.out 7
  go_wp2
  go_meet
  case rel => exact ⟨_, ((a0_5 == a1)), cl, H', ⟨by first | omega | exact Nat.le_refl _⟩, ⟨bk⟩, ⟨bk⟩, ⟨bwS⟩⟩
 case rest =>
  clear HC4
  try clear c1
  try clear p2
  try clear c7
  try clear c8
  try clear c10
  try clear hcz11_0
  try clear hcz11_1
  try clear hcz11_2
  try clear hcz11_3
  try clear hcz11_4
  try clear hcz11_5
  try clear hcz11_6
  try clear hcz11_7
  try clear hcz9_0
  try clear hcz9_1
  try clear hcz9_2
  try clear hcz9_3
  try clear hcz9_4
  try clear hcz9_5
  try clear hcz9_6
  try clear hcz9_7
  try clear hfz11_0
  try clear hfz11_1
  try clear hfz11_2
  try clear hfz11_3
  try clear hfz11_4
  try clear hfz11_5
  try clear hfz11_6
  try clear hfz11_7
  try clear hfz9_0
  try clear hfz9_1
  try clear hfz9_2
  try clear hfz9_3
  try clear hfz9_4
  try clear hfz9_5
  try clear hfz9_6
  try clear hfz9_7
  obtain ⟨kq, x14_3, rfl, HA, HJ3, BK548, BK549, HB⟩ := hcut; cases kq with
  | zero => exact absurd HA.out (by simp [bulletinref33_Bounced.j0])
  | succ kj3 =>
   have H := HA.out; clear HA; simp only [bulletinref33_Bounced.j0] at H
   by_cases c12 : x14_3 = true
   ·subst c12; rw [if_pos rfl] at H; simp only [Option.some.injEq, Prod.mk.injEq] at H; obtain ⟨rfl, rfl, rfl, rfl, rfl, rfl, rfl, rfl⟩ := H; have hnb13 := NB548_549.out; have hnc13 := NB549_548.out; have hcz14_0 : wc.cell? ⟨gb548, 0, none⟩ = some (.string a0_0) := (blk_cell BK548.out 0).trans rfl; have hcz14_1 : wc.cell? ⟨gb548, 1, none⟩ = some (.string a0_1) := (blk_cell BK548.out 1).trans rfl; have hcz14_2 : wc.cell? ⟨gb548, 2, none⟩ = some (.int .i64 a0_2) := (blk_cell BK548.out 2).trans rfl; have hcz14_3 : wc.cell? ⟨gb548, 3, none⟩ = some (.bool a0_3) := (blk_cell BK548.out 3).trans rfl; have hcz14_4 : wc.cell? ⟨gb548, 4, none⟩ = some (.int .i64 a0_4) := (blk_cell BK548.out 4).trans rfl; have hcz14_5 : wc.cell? ⟨gb548, 5, none⟩ = some (.int .i64 a0_5) := (blk_cell BK548.out 5).trans rfl; have hcz14_6 : wc.cell? ⟨gb548, 6, none⟩ = some (.int .i64 a0_6) := (blk_cell BK548.out 6).trans rfl; have hcz14_7 : wc.cell? ⟨gb548, 7, none⟩ = some (.int .i64 a0_7) := (blk_cell BK548.out 7).trans rfl; have hfz14_0 := blk_frozen BK548.out 0; have hfz14_1 := blk_frozen BK548.out 1; have hfz14_2 := blk_frozen BK548.out 2; have hfz14_3 := blk_frozen BK548.out 3; have hfz14_4 := blk_frozen BK548.out 4; have hfz14_5 := blk_frozen BK548.out 5; have hfz14_6 := blk_frozen BK548.out 6; have hfz14_7 := blk_frozen BK548.out 7; have hcz15_0 : wc.cell? ⟨gb549, 0, none⟩ = some (.string (⟨#[]⟩ : ByteArray)) := (blk_cell BK549.out 0).trans rfl; have hcz15_1 : wc.cell? ⟨gb549, 1, none⟩ = some (.string (⟨#[]⟩ : ByteArray)) := (blk_cell BK549.out 1).trans rfl; have hcz15_2 : wc.cell? ⟨gb549, 2, none⟩ = some (.int .i64 0) := (blk_cell BK549.out 2).trans rfl; have hcz15_3 : wc.cell? ⟨gb549, 3, none⟩ = some (.bool false) := (blk_cell BK549.out 3).trans rfl; have hcz15_4 : wc.cell? ⟨gb549, 4, none⟩ = some (.int .i64 0) := (blk_cell BK549.out 4).trans rfl; have hcz15_5 : wc.cell? ⟨gb549, 5, none⟩ = some (.int .i64 0) := (blk_cell BK549.out 5).trans rfl; have hcz15_6 : wc.cell? ⟨gb549, 6, none⟩ = some (.int .i64 0) := (blk_cell BK549.out 6).trans rfl; have hcz15_7 : wc.cell? ⟨gb549, 7, none⟩ = some (.int .i64 0) := (blk_cell BK549.out 7).trans rfl; have hfz15_0 := blk_frozen BK549.out 0; have hfz15_1 := blk_frozen BK549.out 1; have hfz15_2 := blk_frozen BK549.out 2; have hfz15_3 := blk_frozen BK549.out 3; have hfz15_4 := blk_frozen BK549.out 4; have hfz15_5 := blk_frozen BK549.out 5; have hfz15_6 := blk_frozen BK549.out 6; have hfz15_7 := blk_frozen BK549.out 7
    go_wp2
    refine bodyPost_ret (results_cell_row rfl _ _ gb549 25 #[.string a0_0, .string a0_1, .int .i64 a0_2, .bool a0_3, .int .i64 a0_4, .int .i64 a0_5, .int .i64 a0_6, .int .i64 a0_7] (0, 0) _ rfl (by (with_reducible repeat (first | refine blk_drewN ?_ _ | refine blk_drew ?_ | refine blk_alloc ?_ _)); refine blk_put (cs := #[.string a0_0, .string a0_1, .int .i64 a0_2, .bool a0_3, .int .i64 a0_4, .int .i64 a0_5, .int .i64 a0_6, .int .i64 0]) ?_ 7 _ rfl; (with_reducible repeat (first | refine blk_drewN ?_ _ | refine blk_drew ?_ | refine blk_alloc ?_ _)); refine blk_put (cs := #[.string a0_0, .string a0_1, .int .i64 a0_2, .bool a0_3, .int .i64 a0_4, .int .i64 a0_5, .int .i64 0, .int .i64 0]) ?_ 6 _ rfl; (with_reducible repeat (first | refine blk_drewN ?_ _ | refine blk_drew ?_ | refine blk_alloc ?_ _)); refine blk_put (cs := #[.string a0_0, .string a0_1, .int .i64 a0_2, .bool a0_3, .int .i64 a0_4, .int .i64 0, .int .i64 0, .int .i64 0]) ?_ 5 _ rfl; (with_reducible repeat (first | refine blk_drewN ?_ _ | refine blk_drew ?_ | refine blk_alloc ?_ _)); refine blk_put (cs := #[.string a0_0, .string a0_1, .int .i64 a0_2, .bool a0_3, .int .i64 0, .int .i64 0, .int .i64 0, .int .i64 0]) ?_ 4 _ rfl; (with_reducible repeat (first | refine blk_drewN ?_ _ | refine blk_drew ?_ | refine blk_alloc ?_ _)); refine blk_put (cs := #[.string a0_0, .string a0_1, .int .i64 a0_2, .bool false, .int .i64 0, .int .i64 0, .int .i64 0, .int .i64 0]) ?_ 3 _ rfl; (with_reducible repeat (first | refine blk_drewN ?_ _ | refine blk_drew ?_ | refine blk_alloc ?_ _)); refine blk_put (cs := #[.string a0_0, .string a0_1, .int .i64 0, .bool false, .int .i64 0, .int .i64 0, .int .i64 0, .int .i64 0]) ?_ 2 _ rfl; (with_reducible repeat (first | refine blk_drewN ?_ _ | refine blk_drew ?_ | refine blk_alloc ?_ _)); refine blk_put (cs := #[.string a0_0, .string (⟨#[]⟩ : ByteArray), .int .i64 0, .bool false, .int .i64 0, .int .i64 0, .int .i64 0, .int .i64 0]) ?_ 1 _ rfl; (with_reducible repeat (first | refine blk_drewN ?_ _ | refine blk_drew ?_ | refine blk_alloc ?_ _)); exact blk_put (cs := #[.string (⟨#[]⟩ : ByteArray), .string (⟨#[]⟩ : ByteArray), .int .i64 0, .bool false, .int .i64 0, .int .i64 0, .int .i64 0, .int .i64 0]) bk 0 _ rfl) Tryz.underlying25 rfl (by kernel_rfl)) rfl ?_; exact ⟨ew, bwS⟩
   replace c12 := Bool.eq_false_iff.mpr c12; subst c12; rw [if_neg nft] at H
   by_cases c16 : a0_4 < 1099511627776
   ·rw [if_pos c16] at H; have c16b0 := decide_eq_true c16; clear c16
    by_cases c17 : (wrap64 (a0_4 + 1)) ≥ a2
    ·rw [if_pos c17] at H; have c17b0 : decide (a2 ≤ (wrap64 (a0_4 + 1))) = true := decide_eq_true c17; clear c17; simp only [Option.some.injEq, Prod.mk.injEq] at H; obtain ⟨rfl, rfl, rfl, rfl, rfl, rfl, rfl, rfl⟩ := H; have hnb18 := NB548_549.out; have hnc18 := NB549_548.out; have hcz19_0 : wc.cell? ⟨gb548, 0, none⟩ = some (.string a0_0) := (blk_cell BK548.out 0).trans rfl; have hcz19_1 : wc.cell? ⟨gb548, 1, none⟩ = some (.string a0_1) := (blk_cell BK548.out 1).trans rfl; have hcz19_2 : wc.cell? ⟨gb548, 2, none⟩ = some (.int .i64 a0_2) := (blk_cell BK548.out 2).trans rfl; have hcz19_3 : wc.cell? ⟨gb548, 3, none⟩ = some (.bool a0_3) := (blk_cell BK548.out 3).trans rfl; have hcz19_4 : wc.cell? ⟨gb548, 4, none⟩ = some (.int .i64 a0_4) := (blk_cell BK548.out 4).trans rfl; have hcz19_5 : wc.cell? ⟨gb548, 5, none⟩ = some (.int .i64 a0_5) := (blk_cell BK548.out 5).trans rfl; have hcz19_6 : wc.cell? ⟨gb548, 6, none⟩ = some (.int .i64 a0_6) := (blk_cell BK548.out 6).trans rfl; have hcz19_7 : wc.cell? ⟨gb548, 7, none⟩ = some (.int .i64 a0_7) := (blk_cell BK548.out 7).trans rfl; have hfz19_0 := blk_frozen BK548.out 0; have hfz19_1 := blk_frozen BK548.out 1; have hfz19_2 := blk_frozen BK548.out 2; have hfz19_3 := blk_frozen BK548.out 3; have hfz19_4 := blk_frozen BK548.out 4; have hfz19_5 := blk_frozen BK548.out 5; have hfz19_6 := blk_frozen BK548.out 6; have hfz19_7 := blk_frozen BK548.out 7; have hcz20_0 : wc.cell? ⟨gb549, 0, none⟩ = some (.string (⟨#[]⟩ : ByteArray)) := (blk_cell BK549.out 0).trans rfl; have hcz20_1 : wc.cell? ⟨gb549, 1, none⟩ = some (.string (⟨#[]⟩ : ByteArray)) := (blk_cell BK549.out 1).trans rfl; have hcz20_2 : wc.cell? ⟨gb549, 2, none⟩ = some (.int .i64 0) := (blk_cell BK549.out 2).trans rfl; have hcz20_3 : wc.cell? ⟨gb549, 3, none⟩ = some (.bool false) := (blk_cell BK549.out 3).trans rfl; have hcz20_4 : wc.cell? ⟨gb549, 4, none⟩ = some (.int .i64 0) := (blk_cell BK549.out 4).trans rfl; have hcz20_5 : wc.cell? ⟨gb549, 5, none⟩ = some (.int .i64 0) := (blk_cell BK549.out 5).trans rfl; have hcz20_6 : wc.cell? ⟨gb549, 6, none⟩ = some (.int .i64 0) := (blk_cell BK549.out 6).trans rfl; have hcz20_7 : wc.cell? ⟨gb549, 7, none⟩ = some (.int .i64 0) := (blk_cell BK549.out 7).trans rfl; have hfz20_0 := blk_frozen BK549.out 0; have hfz20_1 := blk_frozen BK549.out 1; have hfz20_2 := blk_frozen BK549.out 2; have hfz20_3 := blk_frozen BK549.out 3; have hfz20_4 := blk_frozen BK549.out 4; have hfz20_5 := blk_frozen BK549.out 5; have hfz20_6 := blk_frozen BK549.out 6; have hfz20_7 := blk_frozen BK549.out 7
     go_wp2
     refine bodyPost_ret (results_cell_row rfl _ _ gb549 25 #[.string a0_0, .string a0_1, .int .i64 a0_2, .bool true, .int .i64 (wrap64 (a0_4 + 1)), .int .i64 a1, .int .i64 a0_6, .int .i64 a0_7] (0, 0) _ rfl (by (with_reducible repeat (first | refine blk_drewN ?_ _ | refine blk_drew ?_ | refine blk_alloc ?_ _)); refine blk_put (cs := #[.string a0_0, .string a0_1, .int .i64 a0_2, .bool true, .int .i64 (wrap64 (a0_4 + 1)), .int .i64 a1, .int .i64 a0_6, .int .i64 0]) ?_ 7 _ rfl; (with_reducible repeat (first | refine blk_drewN ?_ _ | refine blk_drew ?_ | refine blk_alloc ?_ _)); refine blk_put (cs := #[.string a0_0, .string a0_1, .int .i64 a0_2, .bool true, .int .i64 (wrap64 (a0_4 + 1)), .int .i64 a1, .int .i64 0, .int .i64 0]) ?_ 6 _ rfl; (with_reducible repeat (first | refine blk_drewN ?_ _ | refine blk_drew ?_ | refine blk_alloc ?_ _)); refine blk_put (cs := #[.string a0_0, .string a0_1, .int .i64 a0_2, .bool true, .int .i64 (wrap64 (a0_4 + 1)), .int .i64 0, .int .i64 0, .int .i64 0]) ?_ 5 _ rfl; (with_reducible repeat (first | refine blk_drewN ?_ _ | refine blk_drew ?_ | refine blk_alloc ?_ _)); refine blk_put (cs := #[.string a0_0, .string a0_1, .int .i64 a0_2, .bool true, .int .i64 0, .int .i64 0, .int .i64 0, .int .i64 0]) ?_ 4 _ rfl; (with_reducible repeat (first | refine blk_drewN ?_ _ | refine blk_drew ?_ | refine blk_alloc ?_ _)); refine blk_put (cs := #[.string a0_0, .string a0_1, .int .i64 a0_2, .bool false, .int .i64 0, .int .i64 0, .int .i64 0, .int .i64 0]) ?_ 3 _ rfl; (with_reducible repeat (first | refine blk_drewN ?_ _ | refine blk_drew ?_ | refine blk_alloc ?_ _)); refine blk_put (cs := #[.string a0_0, .string a0_1, .int .i64 0, .bool false, .int .i64 0, .int .i64 0, .int .i64 0, .int .i64 0]) ?_ 2 _ rfl; (with_reducible repeat (first | refine blk_drewN ?_ _ | refine blk_drew ?_ | refine blk_alloc ?_ _)); refine blk_put (cs := #[.string a0_0, .string (⟨#[]⟩ : ByteArray), .int .i64 0, .bool false, .int .i64 0, .int .i64 0, .int .i64 0, .int .i64 0]) ?_ 1 _ rfl; (with_reducible repeat (first | refine blk_drewN ?_ _ | refine blk_drew ?_ | refine blk_alloc ?_ _)); refine blk_put (cs := #[.string (⟨#[]⟩ : ByteArray), .string (⟨#[]⟩ : ByteArray), .int .i64 0, .bool false, .int .i64 0, .int .i64 0, .int .i64 0, .int .i64 0]) ?_ 0 _ rfl; (with_reducible repeat (first | refine blk_drewN ?_ _ | refine blk_drew ?_ | refine blk_alloc ?_ _)); refine blk_far ?_ NB549_548.out _; (with_reducible repeat (first | refine blk_drewN ?_ _ | refine blk_drew ?_ | refine blk_alloc ?_ _)); refine blk_far ?_ NB549_548.out _; (with_reducible repeat (first | refine blk_drewN ?_ _ | refine blk_drew ?_ | refine blk_alloc ?_ _)); refine blk_far ?_ NB549_548.out _; (with_reducible repeat (first | refine blk_drewN ?_ _ | refine blk_drew ?_ | refine blk_alloc ?_ _)); exact BK549.out) Tryz.underlying25 rfl (by kernel_rfl)) rfl ?_; exact ⟨ew, bwS⟩
    rw [if_neg c17] at H; have c17b0 : decide (a2 ≤ (wrap64 (a0_4 + 1))) = false := decide_eq_false c17; clear c17; simp only [Option.some.injEq, Prod.mk.injEq] at H; obtain ⟨rfl, rfl, rfl, rfl, rfl, rfl, rfl, rfl⟩ := H; have hnb21 := NB548_549.out; have hnc21 := NB549_548.out; have hcz22_0 : wc.cell? ⟨gb548, 0, none⟩ = some (.string a0_0) := (blk_cell BK548.out 0).trans rfl; have hcz22_1 : wc.cell? ⟨gb548, 1, none⟩ = some (.string a0_1) := (blk_cell BK548.out 1).trans rfl; have hcz22_2 : wc.cell? ⟨gb548, 2, none⟩ = some (.int .i64 a0_2) := (blk_cell BK548.out 2).trans rfl; have hcz22_3 : wc.cell? ⟨gb548, 3, none⟩ = some (.bool a0_3) := (blk_cell BK548.out 3).trans rfl; have hcz22_4 : wc.cell? ⟨gb548, 4, none⟩ = some (.int .i64 a0_4) := (blk_cell BK548.out 4).trans rfl; have hcz22_5 : wc.cell? ⟨gb548, 5, none⟩ = some (.int .i64 a0_5) := (blk_cell BK548.out 5).trans rfl; have hcz22_6 : wc.cell? ⟨gb548, 6, none⟩ = some (.int .i64 a0_6) := (blk_cell BK548.out 6).trans rfl; have hcz22_7 : wc.cell? ⟨gb548, 7, none⟩ = some (.int .i64 a0_7) := (blk_cell BK548.out 7).trans rfl; have hfz22_0 := blk_frozen BK548.out 0; have hfz22_1 := blk_frozen BK548.out 1; have hfz22_2 := blk_frozen BK548.out 2; have hfz22_3 := blk_frozen BK548.out 3; have hfz22_4 := blk_frozen BK548.out 4; have hfz22_5 := blk_frozen BK548.out 5; have hfz22_6 := blk_frozen BK548.out 6; have hfz22_7 := blk_frozen BK548.out 7; have hcz23_0 : wc.cell? ⟨gb549, 0, none⟩ = some (.string (⟨#[]⟩ : ByteArray)) := (blk_cell BK549.out 0).trans rfl; have hcz23_1 : wc.cell? ⟨gb549, 1, none⟩ = some (.string (⟨#[]⟩ : ByteArray)) := (blk_cell BK549.out 1).trans rfl; have hcz23_2 : wc.cell? ⟨gb549, 2, none⟩ = some (.int .i64 0) := (blk_cell BK549.out 2).trans rfl; have hcz23_3 : wc.cell? ⟨gb549, 3, none⟩ = some (.bool false) := (blk_cell BK549.out 3).trans rfl; have hcz23_4 : wc.cell? ⟨gb549, 4, none⟩ = some (.int .i64 0) := (blk_cell BK549.out 4).trans rfl; have hcz23_5 : wc.cell? ⟨gb549, 5, none⟩ = some (.int .i64 0) := (blk_cell BK549.out 5).trans rfl; have hcz23_6 : wc.cell? ⟨gb549, 6, none⟩ = some (.int .i64 0) := (blk_cell BK549.out 6).trans rfl; have hcz23_7 : wc.cell? ⟨gb549, 7, none⟩ = some (.int .i64 0) := (blk_cell BK549.out 7).trans rfl; have hfz23_0 := blk_frozen BK549.out 0; have hfz23_1 := blk_frozen BK549.out 1; have hfz23_2 := blk_frozen BK549.out 2; have hfz23_3 := blk_frozen BK549.out 3; have hfz23_4 := blk_frozen BK549.out 4; have hfz23_5 := blk_frozen BK549.out 5; have hfz23_6 := blk_frozen BK549.out 6; have hfz23_7 := blk_frozen BK549.out 7
    go_wp2
    refine bodyPost_ret (results_cell_row rfl _ _ gb549 25 #[.string a0_0, .string a0_1, .int .i64 a0_2, .bool a0_3, .int .i64 (wrap64 (a0_4 + 1)), .int .i64 a1, .int .i64 a0_6, .int .i64 a0_7] (0, 0) _ rfl (by (with_reducible repeat (first | refine blk_drewN ?_ _ | refine blk_drew ?_ | refine blk_alloc ?_ _)); refine blk_put (cs := #[.string a0_0, .string a0_1, .int .i64 a0_2, .bool a0_3, .int .i64 (wrap64 (a0_4 + 1)), .int .i64 a1, .int .i64 a0_6, .int .i64 0]) ?_ 7 _ rfl; (with_reducible repeat (first | refine blk_drewN ?_ _ | refine blk_drew ?_ | refine blk_alloc ?_ _)); refine blk_put (cs := #[.string a0_0, .string a0_1, .int .i64 a0_2, .bool a0_3, .int .i64 (wrap64 (a0_4 + 1)), .int .i64 a1, .int .i64 0, .int .i64 0]) ?_ 6 _ rfl; (with_reducible repeat (first | refine blk_drewN ?_ _ | refine blk_drew ?_ | refine blk_alloc ?_ _)); refine blk_put (cs := #[.string a0_0, .string a0_1, .int .i64 a0_2, .bool a0_3, .int .i64 (wrap64 (a0_4 + 1)), .int .i64 0, .int .i64 0, .int .i64 0]) ?_ 5 _ rfl; (with_reducible repeat (first | refine blk_drewN ?_ _ | refine blk_drew ?_ | refine blk_alloc ?_ _)); refine blk_put (cs := #[.string a0_0, .string a0_1, .int .i64 a0_2, .bool a0_3, .int .i64 0, .int .i64 0, .int .i64 0, .int .i64 0]) ?_ 4 _ rfl; (with_reducible repeat (first | refine blk_drewN ?_ _ | refine blk_drew ?_ | refine blk_alloc ?_ _)); refine blk_put (cs := #[.string a0_0, .string a0_1, .int .i64 a0_2, .bool false, .int .i64 0, .int .i64 0, .int .i64 0, .int .i64 0]) ?_ 3 _ rfl; (with_reducible repeat (first | refine blk_drewN ?_ _ | refine blk_drew ?_ | refine blk_alloc ?_ _)); refine blk_put (cs := #[.string a0_0, .string a0_1, .int .i64 0, .bool false, .int .i64 0, .int .i64 0, .int .i64 0, .int .i64 0]) ?_ 2 _ rfl; (with_reducible repeat (first | refine blk_drewN ?_ _ | refine blk_drew ?_ | refine blk_alloc ?_ _)); refine blk_put (cs := #[.string a0_0, .string (⟨#[]⟩ : ByteArray), .int .i64 0, .bool false, .int .i64 0, .int .i64 0, .int .i64 0, .int .i64 0]) ?_ 1 _ rfl; (with_reducible repeat (first | refine blk_drewN ?_ _ | refine blk_drew ?_ | refine blk_alloc ?_ _)); refine blk_put (cs := #[.string (⟨#[]⟩ : ByteArray), .string (⟨#[]⟩ : ByteArray), .int .i64 0, .bool false, .int .i64 0, .int .i64 0, .int .i64 0, .int .i64 0]) ?_ 0 _ rfl; (with_reducible repeat (first | refine blk_drewN ?_ _ | refine blk_drew ?_ | refine blk_alloc ?_ _)); refine blk_far ?_ NB549_548.out _; (with_reducible repeat (first | refine blk_drewN ?_ _ | refine blk_drew ?_ | refine blk_alloc ?_ _)); refine blk_far ?_ NB549_548.out _; (with_reducible repeat (first | refine blk_drewN ?_ _ | refine blk_drew ?_ | refine blk_alloc ?_ _)); exact BK549.out) Tryz.underlying25 rfl (by kernel_rfl)) rfl ?_; exact ⟨ew, bwS⟩
   rw [if_neg c16] at H; have c16b0 := decide_eq_false c16; clear c16
   by_cases c24 : a0_4 ≥ a2
   ·rw [if_pos c24] at H; have c24b0 : decide (a2 ≤ a0_4) = true := decide_eq_true c24; clear c24; simp only [Option.some.injEq, Prod.mk.injEq] at H; obtain ⟨rfl, rfl, rfl, rfl, rfl, rfl, rfl, rfl⟩ := H; have hnb25 := NB548_549.out; have hnc25 := NB549_548.out; have hcz26_0 : wc.cell? ⟨gb548, 0, none⟩ = some (.string a0_0) := (blk_cell BK548.out 0).trans rfl; have hcz26_1 : wc.cell? ⟨gb548, 1, none⟩ = some (.string a0_1) := (blk_cell BK548.out 1).trans rfl; have hcz26_2 : wc.cell? ⟨gb548, 2, none⟩ = some (.int .i64 a0_2) := (blk_cell BK548.out 2).trans rfl; have hcz26_3 : wc.cell? ⟨gb548, 3, none⟩ = some (.bool a0_3) := (blk_cell BK548.out 3).trans rfl; have hcz26_4 : wc.cell? ⟨gb548, 4, none⟩ = some (.int .i64 a0_4) := (blk_cell BK548.out 4).trans rfl; have hcz26_5 : wc.cell? ⟨gb548, 5, none⟩ = some (.int .i64 a0_5) := (blk_cell BK548.out 5).trans rfl; have hcz26_6 : wc.cell? ⟨gb548, 6, none⟩ = some (.int .i64 a0_6) := (blk_cell BK548.out 6).trans rfl; have hcz26_7 : wc.cell? ⟨gb548, 7, none⟩ = some (.int .i64 a0_7) := (blk_cell BK548.out 7).trans rfl; have hfz26_0 := blk_frozen BK548.out 0; have hfz26_1 := blk_frozen BK548.out 1; have hfz26_2 := blk_frozen BK548.out 2; have hfz26_3 := blk_frozen BK548.out 3; have hfz26_4 := blk_frozen BK548.out 4; have hfz26_5 := blk_frozen BK548.out 5; have hfz26_6 := blk_frozen BK548.out 6; have hfz26_7 := blk_frozen BK548.out 7; have hcz27_0 : wc.cell? ⟨gb549, 0, none⟩ = some (.string (⟨#[]⟩ : ByteArray)) := (blk_cell BK549.out 0).trans rfl; have hcz27_1 : wc.cell? ⟨gb549, 1, none⟩ = some (.string (⟨#[]⟩ : ByteArray)) := (blk_cell BK549.out 1).trans rfl; have hcz27_2 : wc.cell? ⟨gb549, 2, none⟩ = some (.int .i64 0) := (blk_cell BK549.out 2).trans rfl; have hcz27_3 : wc.cell? ⟨gb549, 3, none⟩ = some (.bool false) := (blk_cell BK549.out 3).trans rfl; have hcz27_4 : wc.cell? ⟨gb549, 4, none⟩ = some (.int .i64 0) := (blk_cell BK549.out 4).trans rfl; have hcz27_5 : wc.cell? ⟨gb549, 5, none⟩ = some (.int .i64 0) := (blk_cell BK549.out 5).trans rfl; have hcz27_6 : wc.cell? ⟨gb549, 6, none⟩ = some (.int .i64 0) := (blk_cell BK549.out 6).trans rfl; have hcz27_7 : wc.cell? ⟨gb549, 7, none⟩ = some (.int .i64 0) := (blk_cell BK549.out 7).trans rfl; have hfz27_0 := blk_frozen BK549.out 0; have hfz27_1 := blk_frozen BK549.out 1; have hfz27_2 := blk_frozen BK549.out 2; have hfz27_3 := blk_frozen BK549.out 3; have hfz27_4 := blk_frozen BK549.out 4; have hfz27_5 := blk_frozen BK549.out 5; have hfz27_6 := blk_frozen BK549.out 6; have hfz27_7 := blk_frozen BK549.out 7
    go_wp2
    refine bodyPost_ret (results_cell_row rfl _ _ gb549 25 #[.string a0_0, .string a0_1, .int .i64 a0_2, .bool true, .int .i64 a0_4, .int .i64 a1, .int .i64 a0_6, .int .i64 a0_7] (0, 0) _ rfl (by (with_reducible repeat (first | refine blk_drewN ?_ _ | refine blk_drew ?_ | refine blk_alloc ?_ _)); refine blk_put (cs := #[.string a0_0, .string a0_1, .int .i64 a0_2, .bool true, .int .i64 a0_4, .int .i64 a1, .int .i64 a0_6, .int .i64 0]) ?_ 7 _ rfl; (with_reducible repeat (first | refine blk_drewN ?_ _ | refine blk_drew ?_ | refine blk_alloc ?_ _)); refine blk_put (cs := #[.string a0_0, .string a0_1, .int .i64 a0_2, .bool true, .int .i64 a0_4, .int .i64 a1, .int .i64 0, .int .i64 0]) ?_ 6 _ rfl; (with_reducible repeat (first | refine blk_drewN ?_ _ | refine blk_drew ?_ | refine blk_alloc ?_ _)); refine blk_put (cs := #[.string a0_0, .string a0_1, .int .i64 a0_2, .bool true, .int .i64 a0_4, .int .i64 0, .int .i64 0, .int .i64 0]) ?_ 5 _ rfl; (with_reducible repeat (first | refine blk_drewN ?_ _ | refine blk_drew ?_ | refine blk_alloc ?_ _)); refine blk_put (cs := #[.string a0_0, .string a0_1, .int .i64 a0_2, .bool true, .int .i64 0, .int .i64 0, .int .i64 0, .int .i64 0]) ?_ 4 _ rfl; (with_reducible repeat (first | refine blk_drewN ?_ _ | refine blk_drew ?_ | refine blk_alloc ?_ _)); refine blk_put (cs := #[.string a0_0, .string a0_1, .int .i64 a0_2, .bool false, .int .i64 0, .int .i64 0, .int .i64 0, .int .i64 0]) ?_ 3 _ rfl; (with_reducible repeat (first | refine blk_drewN ?_ _ | refine blk_drew ?_ | refine blk_alloc ?_ _)); refine blk_put (cs := #[.string a0_0, .string a0_1, .int .i64 0, .bool false, .int .i64 0, .int .i64 0, .int .i64 0, .int .i64 0]) ?_ 2 _ rfl; (with_reducible repeat (first | refine blk_drewN ?_ _ | refine blk_drew ?_ | refine blk_alloc ?_ _)); refine blk_put (cs := #[.string a0_0, .string (⟨#[]⟩ : ByteArray), .int .i64 0, .bool false, .int .i64 0, .int .i64 0, .int .i64 0, .int .i64 0]) ?_ 1 _ rfl; (with_reducible repeat (first | refine blk_drewN ?_ _ | refine blk_drew ?_ | refine blk_alloc ?_ _)); refine blk_put (cs := #[.string (⟨#[]⟩ : ByteArray), .string (⟨#[]⟩ : ByteArray), .int .i64 0, .bool false, .int .i64 0, .int .i64 0, .int .i64 0, .int .i64 0]) ?_ 0 _ rfl; (with_reducible repeat (first | refine blk_drewN ?_ _ | refine blk_drew ?_ | refine blk_alloc ?_ _)); refine blk_far ?_ NB549_548.out _; (with_reducible repeat (first | refine blk_drewN ?_ _ | refine blk_drew ?_ | refine blk_alloc ?_ _)); refine blk_far ?_ NB549_548.out _; (with_reducible repeat (first | refine blk_drewN ?_ _ | refine blk_drew ?_ | refine blk_alloc ?_ _)); exact BK549.out) Tryz.underlying25 rfl (by kernel_rfl)) rfl ?_; exact ⟨ew, bwS⟩
   rw [if_neg c24] at H; have c24b0 : decide (a2 ≤ a0_4) = false := decide_eq_false c24; clear c24; simp only [Option.some.injEq, Prod.mk.injEq] at H; obtain ⟨rfl, rfl, rfl, rfl, rfl, rfl, rfl, rfl⟩ := H; have hnb28 := NB548_549.out; have hnc28 := NB549_548.out; have hcz29_0 : wc.cell? ⟨gb548, 0, none⟩ = some (.string a0_0) := (blk_cell BK548.out 0).trans rfl; have hcz29_1 : wc.cell? ⟨gb548, 1, none⟩ = some (.string a0_1) := (blk_cell BK548.out 1).trans rfl; have hcz29_2 : wc.cell? ⟨gb548, 2, none⟩ = some (.int .i64 a0_2) := (blk_cell BK548.out 2).trans rfl; have hcz29_3 : wc.cell? ⟨gb548, 3, none⟩ = some (.bool a0_3) := (blk_cell BK548.out 3).trans rfl; have hcz29_4 : wc.cell? ⟨gb548, 4, none⟩ = some (.int .i64 a0_4) := (blk_cell BK548.out 4).trans rfl; have hcz29_5 : wc.cell? ⟨gb548, 5, none⟩ = some (.int .i64 a0_5) := (blk_cell BK548.out 5).trans rfl; have hcz29_6 : wc.cell? ⟨gb548, 6, none⟩ = some (.int .i64 a0_6) := (blk_cell BK548.out 6).trans rfl; have hcz29_7 : wc.cell? ⟨gb548, 7, none⟩ = some (.int .i64 a0_7) := (blk_cell BK548.out 7).trans rfl; have hfz29_0 := blk_frozen BK548.out 0; have hfz29_1 := blk_frozen BK548.out 1; have hfz29_2 := blk_frozen BK548.out 2; have hfz29_3 := blk_frozen BK548.out 3; have hfz29_4 := blk_frozen BK548.out 4; have hfz29_5 := blk_frozen BK548.out 5; have hfz29_6 := blk_frozen BK548.out 6; have hfz29_7 := blk_frozen BK548.out 7; have hcz30_0 : wc.cell? ⟨gb549, 0, none⟩ = some (.string (⟨#[]⟩ : ByteArray)) := (blk_cell BK549.out 0).trans rfl; have hcz30_1 : wc.cell? ⟨gb549, 1, none⟩ = some (.string (⟨#[]⟩ : ByteArray)) := (blk_cell BK549.out 1).trans rfl; have hcz30_2 : wc.cell? ⟨gb549, 2, none⟩ = some (.int .i64 0) := (blk_cell BK549.out 2).trans rfl; have hcz30_3 : wc.cell? ⟨gb549, 3, none⟩ = some (.bool false) := (blk_cell BK549.out 3).trans rfl; have hcz30_4 : wc.cell? ⟨gb549, 4, none⟩ = some (.int .i64 0) := (blk_cell BK549.out 4).trans rfl; have hcz30_5 : wc.cell? ⟨gb549, 5, none⟩ = some (.int .i64 0) := (blk_cell BK549.out 5).trans rfl; have hcz30_6 : wc.cell? ⟨gb549, 6, none⟩ = some (.int .i64 0) := (blk_cell BK549.out 6).trans rfl; have hcz30_7 : wc.cell? ⟨gb549, 7, none⟩ = some (.int .i64 0) := (blk_cell BK549.out 7).trans rfl; have hfz30_0 := blk_frozen BK549.out 0; have hfz30_1 := blk_frozen BK549.out 1; have hfz30_2 := blk_frozen BK549.out 2; have hfz30_3 := blk_frozen BK549.out 3; have hfz30_4 := blk_frozen BK549.out 4; have hfz30_5 := blk_frozen BK549.out 5; have hfz30_6 := blk_frozen BK549.out 6; have hfz30_7 := blk_frozen BK549.out 7
   go_wp2
   refine bodyPost_ret (results_cell_row rfl _ _ gb549 25 #[.string a0_0, .string a0_1, .int .i64 a0_2, .bool a0_3, .int .i64 a0_4, .int .i64 a1, .int .i64 a0_6, .int .i64 a0_7] (0, 0) _ rfl (by (with_reducible repeat (first | refine blk_drewN ?_ _ | refine blk_drew ?_ | refine blk_alloc ?_ _)); refine blk_put (cs := #[.string a0_0, .string a0_1, .int .i64 a0_2, .bool a0_3, .int .i64 a0_4, .int .i64 a1, .int .i64 a0_6, .int .i64 0]) ?_ 7 _ rfl; (with_reducible repeat (first | refine blk_drewN ?_ _ | refine blk_drew ?_ | refine blk_alloc ?_ _)); refine blk_put (cs := #[.string a0_0, .string a0_1, .int .i64 a0_2, .bool a0_3, .int .i64 a0_4, .int .i64 a1, .int .i64 0, .int .i64 0]) ?_ 6 _ rfl; (with_reducible repeat (first | refine blk_drewN ?_ _ | refine blk_drew ?_ | refine blk_alloc ?_ _)); refine blk_put (cs := #[.string a0_0, .string a0_1, .int .i64 a0_2, .bool a0_3, .int .i64 a0_4, .int .i64 0, .int .i64 0, .int .i64 0]) ?_ 5 _ rfl; (with_reducible repeat (first | refine blk_drewN ?_ _ | refine blk_drew ?_ | refine blk_alloc ?_ _)); refine blk_put (cs := #[.string a0_0, .string a0_1, .int .i64 a0_2, .bool a0_3, .int .i64 0, .int .i64 0, .int .i64 0, .int .i64 0]) ?_ 4 _ rfl; (with_reducible repeat (first | refine blk_drewN ?_ _ | refine blk_drew ?_ | refine blk_alloc ?_ _)); refine blk_put (cs := #[.string a0_0, .string a0_1, .int .i64 a0_2, .bool false, .int .i64 0, .int .i64 0, .int .i64 0, .int .i64 0]) ?_ 3 _ rfl; (with_reducible repeat (first | refine blk_drewN ?_ _ | refine blk_drew ?_ | refine blk_alloc ?_ _)); refine blk_put (cs := #[.string a0_0, .string a0_1, .int .i64 0, .bool false, .int .i64 0, .int .i64 0, .int .i64 0, .int .i64 0]) ?_ 2 _ rfl; (with_reducible repeat (first | refine blk_drewN ?_ _ | refine blk_drew ?_ | refine blk_alloc ?_ _)); refine blk_put (cs := #[.string a0_0, .string (⟨#[]⟩ : ByteArray), .int .i64 0, .bool false, .int .i64 0, .int .i64 0, .int .i64 0, .int .i64 0]) ?_ 1 _ rfl; (with_reducible repeat (first | refine blk_drewN ?_ _ | refine blk_drew ?_ | refine blk_alloc ?_ _)); refine blk_put (cs := #[.string (⟨#[]⟩ : ByteArray), .string (⟨#[]⟩ : ByteArray), .int .i64 0, .bool false, .int .i64 0, .int .i64 0, .int .i64 0, .int .i64 0]) ?_ 0 _ rfl; (with_reducible repeat (first | refine blk_drewN ?_ _ | refine blk_drew ?_ | refine blk_alloc ?_ _)); refine blk_far ?_ NB549_548.out _; (with_reducible repeat (first | refine blk_drewN ?_ _ | refine blk_drew ?_ | refine blk_alloc ?_ _)); exact BK549.out) Tryz.underlying25 rfl (by kernel_rfl)) rfl ?_; exact ⟨ew, bwS⟩

def bulletinref33_Word.f (a0 : Int) : Option (ByteArray) := (some (([(⟨#[]⟩ : ByteArray), (⟨#[101, 97, 99, 104]⟩ : ByteArray), (⟨#[100, 105, 103, 101, 115, 116]⟩ : ByteArray), (⟨#[115, 105, 108, 101, 110, 116]⟩ : ByteArray)] : List ByteArray) : List ByteArray)).bind fun y398 => (if a0 < 1 then (some (⟨#[]⟩ : ByteArray)) else (if a0 > 3 then (some (⟨#[]⟩ : ByteArray)) else (if 0 ≤ a0 then (if a0 < (y398.length : Int) then (some (rdOf ByteArray.empty y398 a0)) else (none)) else (none))))
set_option maxHeartbeats 8000000 in
set_option maxRecDepth 100000 in
theorem bulletinref33_Word.calls (a0 : Int) (r : ByteArray) (w : World) (h : bulletinref33_Word.f a0 = some r) :
  Calls Tryz.prog 22 #[.int .i64 a0] w fun e w' => e = .returned (.string r) ∧ Below w.heap.size w w' := by
 have HB := Aside0.mk (Below.refl w.heap.size w); have H : ((some (([(⟨#[]⟩ : ByteArray), (⟨#[101, 97, 99, 104]⟩ : ByteArray), (⟨#[100, 105, 103, 101, 115, 116]⟩ : ByteArray), (⟨#[115, 105, 108, 101, 110, 116]⟩ : ByteArray)] : List ByteArray) : List ByteArray)).bind fun y398 => (if a0 < 1 then (some (⟨#[]⟩ : ByteArray)) else (if a0 > 3 then (some (⟨#[]⟩ : ByteArray)) else (if 0 ≤ a0 then (if a0 < (y398.length : Int) then (some (rdOf ByteArray.empty y398 a0)) else (none)) else (none))))) = some r := h; clear h; obtain ⟨y398, hy398⟩ : ∃ y_ : List ByteArray, y_ = (([(⟨#[]⟩ : ByteArray), (⟨#[101, 97, 99, 104]⟩ : ByteArray), (⟨#[100, 105, 103, 101, 115, 116]⟩ : ByteArray), (⟨#[115, 105, 108, 101, 110, 116]⟩ : ByteArray)] : List ByteArray)) := ⟨_, rfl⟩
 replace H : (if a0 < 1 then (some (⟨#[]⟩ : ByteArray)) else (if a0 > 3 then (some (⟨#[]⟩ : ByteArray)) else (if 0 ≤ a0 then (if a0 < (y398.length : Int) then (some (rdOf ByteArray.empty y398 a0)) else (none)) else (none)))) = some r := by first | (rw [hy398]; with_reducible exact H) | (have H2_ := (Option.bind_some _ _).symm.trans H; rw [hy398]; with_reducible exact H2_) | (have H2_ := (Option.bind_some _ _).symm.trans H; with_reducible exact H2_) | with_reducible exact H | (rw [hy398]; exact H) | exact H
 have Ny398 := Aside0.mk hy398; clear hy398
 by_cases c2 : a0 < 1
 ·rw [if_pos c2] at H; have c2b0 := decide_eq_true c2; clear c2; obtain rfl := Option.some.inj H
  go_enter Tryz.func22, Tryz.ntmps22
  go_wp2_with (first | ((with_reducible refine gate_dst (N := 4) rfl ?_); refine Kd.R_lit Kd.string _ 9 ?hg (N := 4) ?hd (xs := ([(⟨#[]⟩ : ByteArray), (⟨#[101, 97, 99, 104]⟩ : ByteArray), (⟨#[100, 105, 103, 101, 115, 116]⟩ : ByteArray), (⟨#[115, 105, 108, 101, 110, 116]⟩ : ByteArray)] : List ByteArray)) (inner := [.string (⟨#[]⟩ : ByteArray), .string (⟨#[101, 97, 99, 104]⟩ : ByteArray), .string (⟨#[100, 105, 103, 101, 115, 116]⟩ : ByteArray), .string (⟨#[115, 105, 108, 101, 110, 116]⟩ : ByteArray)]) (ok := fun _ => True) (okp := fun _ => True) ?hr ?hp (fun _ hk => hk) trivial (Below.refl _ _) (Nat.le_refl _) (by simp) ?_; (case hd => rfl); (case hg => rfl); (case hr => first | (go_simp; done) | (go_simp; rfl)); (case hp => exact (Reps.one (show Kd.M Kd.string _ _ _ (⟨#[]⟩ : ByteArray) [.string (⟨#[]⟩ : ByteArray)] from rfl) (Reps.one (show Kd.M Kd.string _ _ _ (⟨#[101, 97, 99, 104]⟩ : ByteArray) [.string (⟨#[101, 97, 99, 104]⟩ : ByteArray)] from rfl) (Reps.one (show Kd.M Kd.string _ _ _ (⟨#[100, 105, 103, 101, 115, 116]⟩ : ByteArray) [.string (⟨#[100, 105, 103, 101, 115, 116]⟩ : ByteArray)] from rfl) (Reps.one (show Kd.M Kd.string _ _ _ (⟨#[115, 105, 108, 101, 110, 116]⟩ : ByteArray) [.string (⟨#[115, 105, 108, 101, 110, 116]⟩ : ByteArray)] from rfl) (Reps.none _ _)))))); intro v399 w3 ho4 hb hg_ hnew_; clear hg_ hnew_; (first | rw [← Ny398.out] at ho4 | (simp only [Int.reduceToNat] at ho4; rw [← Ny398.out] at ho4)); have n0_ := Aside0.mk (Kd.R_lower ho4 (below_size bw)); have n1_ := Aside0.mk (below_step bw hb); clear HB; have HO400 := n0_; have HB := n1_; clear n0_ n1_; clear hb ho4))
  go_ret
  exact ⟨ew, bw⟩
 rw [if_neg c2] at H; have c2b0 := decide_eq_false c2; clear c2
 by_cases c5 : a0 > 3
 ·rw [if_pos c5] at H; have c5b0 : decide (3 < a0) = true := decide_eq_true c5; clear c5; obtain rfl := Option.some.inj H
  go_enter Tryz.func22, Tryz.ntmps22
  go_wp2_with (first | ((with_reducible refine gate_dst (N := 4) rfl ?_); refine Kd.R_lit Kd.string _ 9 ?hg (N := 4) ?hd (xs := ([(⟨#[]⟩ : ByteArray), (⟨#[101, 97, 99, 104]⟩ : ByteArray), (⟨#[100, 105, 103, 101, 115, 116]⟩ : ByteArray), (⟨#[115, 105, 108, 101, 110, 116]⟩ : ByteArray)] : List ByteArray)) (inner := [.string (⟨#[]⟩ : ByteArray), .string (⟨#[101, 97, 99, 104]⟩ : ByteArray), .string (⟨#[100, 105, 103, 101, 115, 116]⟩ : ByteArray), .string (⟨#[115, 105, 108, 101, 110, 116]⟩ : ByteArray)]) (ok := fun _ => True) (okp := fun _ => True) ?hr ?hp (fun _ hk => hk) trivial (Below.refl _ _) (Nat.le_refl _) (by simp) ?_; (case hd => rfl); (case hg => rfl); (case hr => first | (go_simp; done) | (go_simp; rfl)); (case hp => exact (Reps.one (show Kd.M Kd.string _ _ _ (⟨#[]⟩ : ByteArray) [.string (⟨#[]⟩ : ByteArray)] from rfl) (Reps.one (show Kd.M Kd.string _ _ _ (⟨#[101, 97, 99, 104]⟩ : ByteArray) [.string (⟨#[101, 97, 99, 104]⟩ : ByteArray)] from rfl) (Reps.one (show Kd.M Kd.string _ _ _ (⟨#[100, 105, 103, 101, 115, 116]⟩ : ByteArray) [.string (⟨#[100, 105, 103, 101, 115, 116]⟩ : ByteArray)] from rfl) (Reps.one (show Kd.M Kd.string _ _ _ (⟨#[115, 105, 108, 101, 110, 116]⟩ : ByteArray) [.string (⟨#[115, 105, 108, 101, 110, 116]⟩ : ByteArray)] from rfl) (Reps.none _ _)))))); intro v399 w6 ho7 hb hg_ hnew_; clear hg_ hnew_; (first | rw [← Ny398.out] at ho7 | (simp only [Int.reduceToNat] at ho7; rw [← Ny398.out] at ho7)); have n0_ := Aside0.mk (Kd.R_lower ho7 (below_size bw)); have n1_ := Aside0.mk (below_step bw hb); clear HB; have HO400 := n0_; have HB := n1_; clear n0_ n1_; clear hb ho7))
  go_ret
  exact ⟨ew, bw⟩
 rw [if_neg c5] at H; have c5b0 : decide (3 < a0) = false := decide_eq_false c5; clear c5
 by_cases c8 : 0 ≤ a0
 ·rw [if_pos c8] at H; have c8b0 := decide_eq_true c8; clear c8
  by_cases c9 : a0 < (y398.length : Int)
  ·rw [if_pos c9] at H; have c9b0 := decide_eq_true c9; clear c9; obtain rfl := Option.some.inj H
   go_enter Tryz.func22, Tryz.ntmps22
   go_wp2_with (first | ((with_reducible refine gate_dst (N := 4) rfl ?_); refine Kd.R_lit Kd.string _ 9 ?hg (N := 4) ?hd (xs := ([(⟨#[]⟩ : ByteArray), (⟨#[101, 97, 99, 104]⟩ : ByteArray), (⟨#[100, 105, 103, 101, 115, 116]⟩ : ByteArray), (⟨#[115, 105, 108, 101, 110, 116]⟩ : ByteArray)] : List ByteArray)) (inner := [.string (⟨#[]⟩ : ByteArray), .string (⟨#[101, 97, 99, 104]⟩ : ByteArray), .string (⟨#[100, 105, 103, 101, 115, 116]⟩ : ByteArray), .string (⟨#[115, 105, 108, 101, 110, 116]⟩ : ByteArray)]) (ok := fun _ => True) (okp := fun _ => True) ?hr ?hp (fun _ hk => hk) trivial (Below.refl _ _) (Nat.le_refl _) (by simp) ?_; (case hd => rfl); (case hg => rfl); (case hr => first | (go_simp; done) | (go_simp; rfl)); (case hp => exact (Reps.one (show Kd.M Kd.string _ _ _ (⟨#[]⟩ : ByteArray) [.string (⟨#[]⟩ : ByteArray)] from rfl) (Reps.one (show Kd.M Kd.string _ _ _ (⟨#[101, 97, 99, 104]⟩ : ByteArray) [.string (⟨#[101, 97, 99, 104]⟩ : ByteArray)] from rfl) (Reps.one (show Kd.M Kd.string _ _ _ (⟨#[100, 105, 103, 101, 115, 116]⟩ : ByteArray) [.string (⟨#[100, 105, 103, 101, 115, 116]⟩ : ByteArray)] from rfl) (Reps.one (show Kd.M Kd.string _ _ _ (⟨#[115, 105, 108, 101, 110, 116]⟩ : ByteArray) [.string (⟨#[115, 105, 108, 101, 110, 116]⟩ : ByteArray)] from rfl) (Reps.none _ _)))))); intro v399 w10 ho11 hb hg_ hnew_; clear hg_ hnew_; (first | rw [← Ny398.out] at ho11 | (simp only [Int.reduceToNat] at ho11; rw [← Ny398.out] at ho11)); have n0_ := Aside0.mk (Kd.R_lower ho11 (below_size bw)); have n1_ := Aside0.mk (below_step bw hb); clear HB; have HO400 := n0_; have HB := n1_; clear n0_ n1_; clear hb ho11; obtain ⟨Ao12, co12, eo12⟩ := Kd.R_slice HO400.out; subst eo12; have p401 : 0 ≤ (a0 : Int) := od; have q401 : a0 < (y398.length : Int) := od; obtain ⟨ad401, e401, hx401_0⟩ := Kd.at_string (Kd.R_reads' HO400.out).2.2 a0 p401 q401; cases e401; replace p401 := eq_true p401; replace q401 := eq_true q401))
   go_ret
   exact ⟨ew, bw⟩
  rw [if_neg c9] at H; exact absurd H (by simp)
 rw [if_neg c8] at H; exact absurd H (by simp)

def bulletinref33_Mode.l0 : Nat → ByteArray → Int → Option (Int)
 | 0, _, _ => none
 | k + 1, x0, x3 => if x3 ≤ 3 then ((bulletinref33_Word.f x3).bind fun t402 => (if x0.toList = t402.toList then (some x3) else (bulletinref33_Mode.l0 k x0 (wrap64 (x3 + 1))))) else (some 0)
def bulletinref33_Mode.f (k : Nat) (a0 : ByteArray) : Option (Int) := bulletinref33_Mode.l0 k a0 1
set_option maxHeartbeats 8000000 in
set_option maxRecDepth 100000 in
theorem bulletinref33_Mode.calls (k : Nat) (a0 : ByteArray) (r : Int) (w : World) (h : bulletinref33_Mode.f k a0 = some r) :
  Calls Tryz.prog 24 #[.string a0] w fun e w' => e = .returned (.int .i64 r) ∧ Below w.heap.size w w' := by
 have HB := Aside0.mk (Below.refl w.heap.size w); have H : (bulletinref33_Mode.l0 k a0 1) = some r := h; clear h; have H' := Aside0.mk H; clear H
 go_enter Tryz.func24, Tryz.ntmps24
 go_wp2
 go_loopg [3] k (fun kq v3 w' => ∃ (x3_1 : Int), v3 = .int .i64 x3_1 ∧ Aside0 (bulletinref33_Mode.l0 kq a0 x3_1 = some r) ∧ Aside0 (kq ≤ k) ∧ Aside0 (Below w.heap.size w w'))
 case atStart => exact ⟨(1), cl, H', ⟨Nat.le_refl _⟩, ⟨bw⟩⟩
 case round =>
  clear H'; obtain ⟨x3_1, rfl, HA, HK1, HB⟩ := hrel; cases gk with
  | zero => exact absurd HA.out (by simp [bulletinref33_Mode.l0])
  | succ k1 =>
   have H := HA.out; clear HA; simp only [bulletinref33_Mode.l0] at H
   by_cases c2 : x3_1 ≤ 3
   ·rw [if_pos c2] at H; have c2b0 := decide_eq_true c2; clear c2; replace H := Option.bind_eq_some_iff.mp H; obtain ⟨t402, A30, H⟩ := H; have A3 := Aside0.mk A30; clear A30
    by_cases c4 : a0.toList = t402.toList
    ·rw [if_pos c4] at H; have c4b0 := beq_iff_eq.mpr c4; have c4b1 := bne_eq_false_iff_eq.mpr c4; clear c4; obtain rfl := Option.some.inj H
     go_wp2_with (first | ((with_reducible refine gate_callee (f := 22) rfl ?_); refine goesL_ (some 10) rfl rfl Tryz.func22 (by kernel_rfl) rfl #[.int .i64 x3_1] rfl am ?_; (with_reducible refine (bulletinref33_Word.calls x3_1 t402 _ A3.out).mono ?_); rintro e w5 ⟨rfl, hb⟩; refine ⟨_, rfl, ?_⟩; have n0_ := Aside0.mk (below_step bw hb); clear HB; have HB := n0_; clear n0_; (try clear hb); (try clear hb2); (try clear hk); (try clear hi)))
     go_ret
     exact ⟨ew, bw⟩
    rw [if_neg c4] at H; have c4b0 := beq_eq_false_iff_ne.mpr c4; have c4b1 := bne_iff_ne.mpr c4; have H' := Aside0.mk H; clear H
    go_wp2_with (first | ((with_reducible refine gate_callee (f := 22) rfl ?_); refine goesL_ (some 10) rfl rfl Tryz.func22 (by kernel_rfl) rfl #[.int .i64 x3_1] rfl am ?_; (with_reducible refine (bulletinref33_Word.calls x3_1 t402 _ A3.out).mono ?_); rintro e w6 ⟨rfl, hb⟩; refine ⟨_, rfl, ?_⟩; have n0_ := Aside0.mk (below_step bw hb); clear HB; have HB := n0_; clear n0_; (try clear hb); (try clear hb2); (try clear hk); (try clear hi)))
    go_roundg k1
    case measure => have := HK1.out; omega
    case rel => exact ⟨(wrap64 (x3_1 + 1)), cl, H', ⟨by have := HK1.out; omega⟩, ⟨bw⟩⟩
   rw [if_neg c2] at H; have c2b0 := decide_eq_false c2; clear c2; obtain rfl := Option.some.inj H
   go_wp2
   go_ret
   exact ⟨ew, bw⟩

end Go.Proofs.YtnnlhpmkfijppaaGreatDoor.Fn
set_option linter.unusedVariables false
set_option linter.unusedSimpArgs false
namespace Go.Proofs.YtnnlhpmkfijppaaGreatDoor.Pl
open Go.RowKit Go.Proofs.YtnnlhpmkfijppaaGreatDoorW.PrintWords Go.Proofs.YtnnlhpmkfijppaaGreatDoor.Fn

/-! Layer 33: what the document tells of a member is what the program tells. -/
theorem refnumber_is (n : Int) : bulletinref33_number.f n = some (okN n) := number_is n
theorem refsound_is (a b : ByteArray) (mode : Int) (off : Bool) (score day ticket since : Int) (ha : a.size ≤ 1000000) (hb : b.size ≤ 1000000) (k : Nat) (hk : 10000000 ≤ k) :
  bulletinref33_Sound.f k a b mode off score day ticket since = some (sound a b mode score day ticket since) := by
 unfold bulletinref33_Sound.f sound
 rw [refRight_is a b ha hb k (by omega), Option.bind_some]
 simp only [refnumber_is, Option.bind_some]
 cases right a b
 ·rfl
 rw [if_pos rfl, Bool.true_and]
 unfold okM
 by_cases h1 : mode ≥ 1
 case neg => rw [if_neg h1, decide_eq_false (show ¬ 1 ≤ mode from h1)]; rfl
 rw [if_pos h1, decide_eq_true (show 1 ≤ mode from h1), Bool.true_and]
 by_cases h2 : mode ≤ 3
 case neg => rw [if_neg h2, decide_eq_false h2]; rfl
 rw [if_pos h2, decide_eq_true h2, Bool.true_and]
 cases okN score
 ·rfl
 rw [if_pos rfl, Bool.true_and]
 have hd : (okN day || decide (day = -1)) = (decide (day ≥ -1) && decide (day ≤ 1099511627776)) := by
  unfold okN
  by_cases a0 : 0 ≤ day
  ·by_cases a1 : day ≤ 1099511627776
   ·rw [decide_eq_true a0, decide_eq_true a1, decide_eq_true (show day ≥ -1 by omega)]; rfl
   rw [decide_eq_true a0, decide_eq_false a1, decide_eq_true (show day ≥ -1 by omega), decide_eq_false (show ¬ day = -1 by omega)]; rfl
  by_cases a1 : day = -1
  ·subst a1; decide
  rw [decide_eq_false a0, decide_eq_false a1, decide_eq_false (show ¬ day ≥ -1 by omega)]; simp
 rw [hd]
 by_cases h3 : day ≥ -1
 case neg => rw [if_neg h3, decide_eq_false h3]; rfl
 rw [if_pos h3, decide_eq_true h3, Bool.true_and]
 by_cases h4 : day ≤ 1099511627776
 case neg => rw [if_neg h4, decide_eq_false h4]; rfl
 rw [if_pos h4, decide_eq_true h4, Bool.true_and]
 cases okN ticket <;> rfl
def gets (mode : Int) (off : Bool) (m : Int) : Bool := decide (mode = m) && !off
theorem gets_is (a b : ByteArray) (mode : Int) (off : Bool) (score day ticket since m : Int) : roster_Member_Gets.f a b mode off score day ticket since m = some (gets mode off m) := by
 unfold roster_Member_Gets.f gets
 by_cases h : mode = m
 ·rw [if_pos h, decide_eq_true h]; rfl
 rw [if_neg h, decide_eq_false h]; rfl
theorem refgets_is (a b : ByteArray) (mode : Int) (off : Bool) (score day ticket since m : Int) : bulletinref33_Gets.f a b mode off score day ticket since m = some (gets mode off m) := gets_is a b mode off score day ticket since m
theorem bounced_same (k : Nat) (a b : ByteArray) (mode : Int) (off : Bool) (sc dy tk sn day most : Int) : ∃ o s d, roster_Member_Bounced.f (k + 1) a b mode off sc dy tk sn day most = some (a, b, mode, o, s, d, tk, sn) ∧ bulletinref33_Bounced.f (k + 1) a b mode off sc dy tk sn day most = some (a, b, mode, o, s, d, tk, sn) := by
 unfold roster_Member_Bounced.f bulletinref33_Bounced.f
 cases off with
 | true => exact ⟨_, _, _, by rw [if_pos rfl, roster_Member_Bounced.j0, if_pos rfl], by rw [if_pos rfl, bulletinref33_Bounced.j0, if_pos rfl]⟩
 | false =>
  by_cases h : day = dy
  ·subst h
   exact ⟨_, _, _, by rw [if_neg (by decide), roster_Member_Bounced.j0, if_pos (by simp)], by rw [if_neg (by decide), bulletinref33_Bounced.j0, if_pos (by simp)]⟩
  have e1 : ¬ (day == dy) = true := by rw [beq_iff_eq]; exact h
  have e2 : ¬ (dy == day) = true := by rw [beq_iff_eq]; exact fun e => h e.symm
  by_cases h2 : sc < 1099511627776
  ·refine ⟨_, _, _, by rw [if_neg (by decide), roster_Member_Bounced.j0, if_neg e1, if_pos h2], ?_⟩
   rw [if_neg (by decide), bulletinref33_Bounced.j0, if_neg e2, if_pos h2]
   by_cases h3 : wrap64 (sc + 1) ≥ most
   ·rw [if_pos h3, decide_eq_true h3]
   rw [if_neg h3, decide_eq_false h3]
  refine ⟨_, _, _, by rw [if_neg (by decide), roster_Member_Bounced.j0, if_neg e1, if_neg h2], ?_⟩
  rw [if_neg (by decide), bulletinref33_Bounced.j0, if_neg e2, if_neg h2]
  by_cases h3 : sc ≥ most
  ·rw [if_pos h3, decide_eq_true h3]
  rw [if_neg h3, decide_eq_false h3]
theorem refword_is (n : Int) : bulletinref33_Word.f n = some (str (wordM n)) := by
 unfold bulletinref33_Word.f wordM
 simp only [Option.bind_some]
 by_cases h0 : n < 1
 ·rw [if_pos h0, if_neg (by omega), if_neg (by omega), if_neg (by omega)]; rfl
 rw [if_neg h0]
 by_cases h3 : n > 3
 ·rw [if_pos h3, if_neg (by omega), if_neg (by omega), if_neg (by omega)]; rfl
 rw [if_neg h3]
 rcases (by omega : n = 1 ∨ n = 2 ∨ n = 3) with rfl | rfl | rfl <;> rfl
theorem refmode_eq (k : Nat) (s : ByteArray) : ∀ (k : Nat) (i : Int), bulletinref33_Mode.l0 k s i = roster_Mode.l0 k s i
 | 0, i => rfl
 | k + 1, i => by
  rw [bulletinref33_Mode.l0, roster_Mode.l0]
  by_cases h : i ≤ 3
  ·rw [if_pos h, if_pos h, refword_is, word_is, Option.bind_some, Option.bind_some, toList_str, refmode_eq k s k]
   by_cases h2 : s.toList = wordM i
   ·rw [if_pos h2, if_pos h2.symm]
   rw [if_neg h2, if_neg (fun e => h2 e.symm)]
  rw [if_neg h, if_neg h]
theorem mode_some (s : ByteArray) (k : Nat) (hk : 10 ≤ k) : ∃ n, roster_Mode.f k s = some n ∧ bulletinref33_Mode.f k s = some n := by
 have h0 : ∃ n, roster_Mode.f k s = some n := by
  unfold roster_Mode.f
  obtain ⟨k, rfl⟩ : ∃ q, k = q + 1 + 1 + 1 + 1 := ⟨k - 4, by omega⟩
  have w2 : wrap64 (1 + 1) = 2 := wrap_id (by decide) (by decide)
  have w3 : wrap64 (2 + 1) = 3 := wrap_id (by decide) (by decide)
  have w4 : wrap64 (3 + 1) = 4 := wrap_id (by decide) (by decide)
  rw [roster_Mode.l0, if_pos (show (1 : Int) ≤ 3 by omega), word_is, Option.bind_some, w2]
  split
  ·exact ⟨_, rfl⟩
  rw [roster_Mode.l0, if_pos (show (2 : Int) ≤ 3 by omega), word_is, Option.bind_some, w3]
  split
  ·exact ⟨_, rfl⟩
  rw [roster_Mode.l0, if_pos (show (3 : Int) ≤ 3 by omega), word_is, Option.bind_some, w4]
  split
  ·exact ⟨_, rfl⟩
  rw [roster_Mode.l0, if_neg (show ¬ (4 : Int) ≤ 3 by omega)]
  exact ⟨_, rfl⟩
 obtain ⟨n, hn⟩ := h0
 refine ⟨n, hn, ?_⟩
 unfold bulletinref33_Mode.f
 rw [refmode_eq k]
 exact hn
end Go.Proofs.YtnnlhpmkfijppaaGreatDoor.Pl
namespace Go.Proofs.YtnnlhpmkfijppaaGreatDoor.Fn
open Go.RowKit Go.Proofs.YtnnlhpmkfijppaaGreatDoorW.PrintWords Go.Proofs.YtnnlhpmkfijppaaGreatDoorW.PrintLast Go.Proofs.YtnnlhpmkfijppaaGreatDoorW.PrintMore
attribute [local go_sem] max2_int min2_int max_two min_two max_three min_three max_four min_four
set_option linter.unusedVariables false
set_option linter.unusedSimpArgs false
def roster_Member_Well.f (a0_0 : ByteArray) (a0_1 : ByteArray) (a0_2 : Int) (a0_3 : Bool) (a0_4 : Int) (a0_5 : Int) (a0_6 : Int) (a0_7 : Int) : Option (ByteArray × ByteArray × Int × Bool × Int × Int × Int × Int) := some (a0_0, a0_1, a0_2, false, 0, (-1), a0_6, a0_7)
set_option maxHeartbeats 8000000 in
set_option maxRecDepth 100000 in
theorem roster_Member_Well.calls (a0_0 : ByteArray) (a0_1 : ByteArray) (a0_2 : Int) (a0_3 : Bool) (a0_4 : Int) (a0_5 : Int) (a0_6 : Int) (a0_7 : Int) (r1 : ByteArray) (r2 : ByteArray) (r3 : Int) (r4 : Bool) (r5 : Int) (r6 : Int) (r7 : Int) (r8 : Int) (w : World) (h : roster_Member_Well.f a0_0 a0_1 a0_2 a0_3 a0_4 a0_5 a0_6 a0_7 = some (r1, r2, r3, r4, r5, r6, r7, r8)) :
  Calls Tryz.prog 17 #[.agg #[.string a0_0, .string a0_1, .int .i64 a0_2, .bool a0_3, .int .i64 a0_4, .int .i64 a0_5, .int .i64 a0_6, .int .i64 a0_7]] w fun e w' => e = .returned (.agg #[.string r1, .string r2, .int .i64 r3, .bool r4, .int .i64 r5, .int .i64 r6, .int .i64 r7, .int .i64 r8]) ∧ Below w.heap.size w w' := by
 have hu29 := Tryz.underlying29; have HB := Aside0.mk (Below.refl w.heap.size w); have H : (some (a0_0, a0_1, a0_2, false, 0, (-1), a0_6, a0_7)) = some (r1, r2, r3, r4, r5, r6, r7, r8) := h; clear h; simp only [Option.some.injEq, Prod.mk.injEq] at H; obtain ⟨rfl, rfl, rfl, rfl, rfl, rfl, rfl, rfl⟩ := H
 go_enter Tryz.func17, Tryz.ntmps17
 go_wp2_with (first | ((with_reducible refine gate_dst (N := 1) rfl ?_); refine box_event ?hg (N := 1) ?hd (cs := #[.string a0_0, .string a0_1, .int .i64 a0_2, .bool a0_3, .int .i64 a0_4, .int .i64 a0_5, .int .i64 a0_6, .int .i64 a0_7]) (t := 29) ?hr ?_; (case hd => rfl); (case hg => rfl); (case hr => first | (go_simp; done) | (go_simp; rfl)); intro gb550 hg w2 hbox hb; have n0_ := Aside0.mk (below_step bw hb); have n1_ := Aside0.mk (hbox); have n2_ := Aside0.mk ((by rw [hg]; exact (below_size bw) : w.heap.size ≤ gb550)); have n3_ := Aside0.mk ((by rw [hg]; exact (below_size bw) : w.heap.size ≤ gb550)); clear HB; have HB := n0_; have BK550 := n1_; have GW550 := n2_; have GE550 := n3_; clear n0_ n1_ n2_ n3_; clear hb hbox hg) | ((with_reducible refine gate_dst (N := 2) rfl ?_); refine box_event ?hg (N := 2) ?hd (cs := #[.string (⟨#[]⟩ : ByteArray), .string (⟨#[]⟩ : ByteArray), .int .i64 0, .bool false, .int .i64 0, .int .i64 0, .int .i64 0, .int .i64 0]) (t := 29) ?hr ?_; (case hd => rfl); (case hg => rfl); (case hr => first | (go_simp; done) | (go_simp; rfl)); intro gb551 hg w3 hbox hb; have n0_ := Aside0.mk (blk_below (g := gb550) (o := .cells #[.string a0_0, .string a0_1, .int .i64 a0_2, .bool a0_3, .int .i64 a0_4, .int .i64 a0_5, .int .i64 a0_6, .int .i64 a0_7] 29 (0, 0)) bk hb); have n1_ := Aside0.mk (below_step bwS hb); have n2_ := Aside0.mk (hbox); have n3_ := Aside0.mk ((by rw [hg]; exact (below_size bwS) : w.heap.size ≤ gb551)); have n4_ := Aside0.mk ((by rw [hg]; exact (below_size bwS) : w.heap.size ≤ gb551)); have n5_ := Aside0.mk ((by rw [hg]; exact Nat.ne_of_lt (blk_lt (g := gb550) (o := .cells #[.string a0_0, .string a0_1, .int .i64 a0_2, .bool a0_3, .int .i64 a0_4, .int .i64 a0_5, .int .i64 a0_6, .int .i64 a0_7] 29 (0, 0)) bk) : gb550 ≠ gb551)); have n6_ := Aside0.mk ((by rw [hg]; exact Nat.ne_of_gt (blk_lt (g := gb550) (o := .cells #[.string a0_0, .string a0_1, .int .i64 a0_2, .bool a0_3, .int .i64 a0_4, .int .i64 a0_5, .int .i64 a0_6, .int .i64 a0_7] 29 (0, 0)) bk) : gb551 ≠ gb550)); clear BK550; clear HB; have BK550 := n0_; have HB := n1_; have BK551 := n2_; have GW551 := n3_; have GE551 := n4_; have NB550_551 := n5_; have NB551_550 := n6_; clear n0_ n1_ n2_ n3_ n4_ n5_ n6_; clear hb hbox hg; have hnb4 := NB550_551.out; have hnc4 := NB551_550.out; have hcz5_0 : w3.cell? ⟨gb550, 0, none⟩ = some (.string a0_0) := (blk_cell BK550.out 0).trans rfl; have hcz5_1 : w3.cell? ⟨gb550, 1, none⟩ = some (.string a0_1) := (blk_cell BK550.out 1).trans rfl; have hcz5_2 : w3.cell? ⟨gb550, 2, none⟩ = some (.int .i64 a0_2) := (blk_cell BK550.out 2).trans rfl; have hcz5_3 : w3.cell? ⟨gb550, 3, none⟩ = some (.bool a0_3) := (blk_cell BK550.out 3).trans rfl; have hcz5_4 : w3.cell? ⟨gb550, 4, none⟩ = some (.int .i64 a0_4) := (blk_cell BK550.out 4).trans rfl; have hcz5_5 : w3.cell? ⟨gb550, 5, none⟩ = some (.int .i64 a0_5) := (blk_cell BK550.out 5).trans rfl; have hcz5_6 : w3.cell? ⟨gb550, 6, none⟩ = some (.int .i64 a0_6) := (blk_cell BK550.out 6).trans rfl; have hcz5_7 : w3.cell? ⟨gb550, 7, none⟩ = some (.int .i64 a0_7) := (blk_cell BK550.out 7).trans rfl; have hfz5_0 := blk_frozen BK550.out 0; have hfz5_1 := blk_frozen BK550.out 1; have hfz5_2 := blk_frozen BK550.out 2; have hfz5_3 := blk_frozen BK550.out 3; have hfz5_4 := blk_frozen BK550.out 4; have hfz5_5 := blk_frozen BK550.out 5; have hfz5_6 := blk_frozen BK550.out 6; have hfz5_7 := blk_frozen BK550.out 7; have hcz6_0 : w3.cell? ⟨gb551, 0, none⟩ = some (.string (⟨#[]⟩ : ByteArray)) := (blk_cell BK551.out 0).trans rfl; have hcz6_1 : w3.cell? ⟨gb551, 1, none⟩ = some (.string (⟨#[]⟩ : ByteArray)) := (blk_cell BK551.out 1).trans rfl; have hcz6_2 : w3.cell? ⟨gb551, 2, none⟩ = some (.int .i64 0) := (blk_cell BK551.out 2).trans rfl; have hcz6_3 : w3.cell? ⟨gb551, 3, none⟩ = some (.bool false) := (blk_cell BK551.out 3).trans rfl; have hcz6_4 : w3.cell? ⟨gb551, 4, none⟩ = some (.int .i64 0) := (blk_cell BK551.out 4).trans rfl; have hcz6_5 : w3.cell? ⟨gb551, 5, none⟩ = some (.int .i64 0) := (blk_cell BK551.out 5).trans rfl; have hcz6_6 : w3.cell? ⟨gb551, 6, none⟩ = some (.int .i64 0) := (blk_cell BK551.out 6).trans rfl; have hcz6_7 : w3.cell? ⟨gb551, 7, none⟩ = some (.int .i64 0) := (blk_cell BK551.out 7).trans rfl; have hfz6_0 := blk_frozen BK551.out 0; have hfz6_1 := blk_frozen BK551.out 1; have hfz6_2 := blk_frozen BK551.out 2; have hfz6_3 := blk_frozen BK551.out 3; have hfz6_4 := blk_frozen BK551.out 4; have hfz6_5 := blk_frozen BK551.out 5; have hfz6_6 := blk_frozen BK551.out 6; have hfz6_7 := blk_frozen BK551.out 7))
 refine bodyPost_ret (results_cell_row rfl _ _ gb551 29 #[.string a0_0, .string a0_1, .int .i64 a0_2, .bool false, .int .i64 0, .int .i64 (-1), .int .i64 a0_6, .int .i64 a0_7] (0, 0) _ rfl (by (with_reducible repeat (first | refine blk_drewN ?_ _ | refine blk_drew ?_ | refine blk_alloc ?_ _)); refine blk_put (cs := #[.string a0_0, .string a0_1, .int .i64 a0_2, .bool false, .int .i64 0, .int .i64 (-1), .int .i64 a0_6, .int .i64 0]) ?_ 7 _ rfl; (with_reducible repeat (first | refine blk_drewN ?_ _ | refine blk_drew ?_ | refine blk_alloc ?_ _)); refine blk_put (cs := #[.string a0_0, .string a0_1, .int .i64 a0_2, .bool false, .int .i64 0, .int .i64 (-1), .int .i64 0, .int .i64 0]) ?_ 6 _ rfl; (with_reducible repeat (first | refine blk_drewN ?_ _ | refine blk_drew ?_ | refine blk_alloc ?_ _)); refine blk_put (cs := #[.string a0_0, .string a0_1, .int .i64 a0_2, .bool false, .int .i64 0, .int .i64 0, .int .i64 0, .int .i64 0]) ?_ 5 _ rfl; (with_reducible repeat (first | refine blk_drewN ?_ _ | refine blk_drew ?_ | refine blk_alloc ?_ _)); refine blk_put (cs := #[.string a0_0, .string a0_1, .int .i64 a0_2, .bool false, .int .i64 0, .int .i64 0, .int .i64 0, .int .i64 0]) ?_ 4 _ rfl; (with_reducible repeat (first | refine blk_drewN ?_ _ | refine blk_drew ?_ | refine blk_alloc ?_ _)); refine blk_put (cs := #[.string a0_0, .string a0_1, .int .i64 a0_2, .bool false, .int .i64 0, .int .i64 0, .int .i64 0, .int .i64 0]) ?_ 3 _ rfl; (with_reducible repeat (first | refine blk_drewN ?_ _ | refine blk_drew ?_ | refine blk_alloc ?_ _)); refine blk_put (cs := #[.string a0_0, .string a0_1, .int .i64 0, .bool false, .int .i64 0, .int .i64 0, .int .i64 0, .int .i64 0]) ?_ 2 _ rfl; (with_reducible repeat (first | refine blk_drewN ?_ _ | refine blk_drew ?_ | refine blk_alloc ?_ _)); refine blk_put (cs := #[.string a0_0, .string (⟨#[]⟩ : ByteArray), .int .i64 0, .bool false, .int .i64 0, .int .i64 0, .int .i64 0, .int .i64 0]) ?_ 1 _ rfl; (with_reducible repeat (first | refine blk_drewN ?_ _ | refine blk_drew ?_ | refine blk_alloc ?_ _)); refine blk_put (cs := #[.string (⟨#[]⟩ : ByteArray), .string (⟨#[]⟩ : ByteArray), .int .i64 0, .bool false, .int .i64 0, .int .i64 0, .int .i64 0, .int .i64 0]) ?_ 0 _ rfl; (with_reducible repeat (first | refine blk_drewN ?_ _ | refine blk_drew ?_ | refine blk_alloc ?_ _)); refine blk_far ?_ NB551_550.out _; (with_reducible repeat (first | refine blk_drewN ?_ _ | refine blk_drew ?_ | refine blk_alloc ?_ _)); refine blk_far ?_ NB551_550.out _; (with_reducible repeat (first | refine blk_drewN ?_ _ | refine blk_drew ?_ | refine blk_alloc ?_ _)); refine blk_far ?_ NB551_550.out _; (with_reducible repeat (first | refine blk_drewN ?_ _ | refine blk_drew ?_ | refine blk_alloc ?_ _)); exact BK551.out) Tryz.underlying29 rfl (by kernel_rfl)) rfl ?_; exact ⟨ew, bwS⟩

def bulletinref33_Well.f (a0_0 : ByteArray) (a0_1 : ByteArray) (a0_2 : Int) (a0_3 : Bool) (a0_4 : Int) (a0_5 : Int) (a0_6 : Int) (a0_7 : Int) : Option (ByteArray × ByteArray × Int × Bool × Int × Int × Int × Int) := some (a0_0, a0_1, a0_2, false, 0, (-1), a0_6, a0_7)
set_option maxHeartbeats 8000000 in
set_option maxRecDepth 100000 in
theorem bulletinref33_Well.calls (a0_0 : ByteArray) (a0_1 : ByteArray) (a0_2 : Int) (a0_3 : Bool) (a0_4 : Int) (a0_5 : Int) (a0_6 : Int) (a0_7 : Int) (r1 : ByteArray) (r2 : ByteArray) (r3 : Int) (r4 : Bool) (r5 : Int) (r6 : Int) (r7 : Int) (r8 : Int) (w : World) (h : bulletinref33_Well.f a0_0 a0_1 a0_2 a0_3 a0_4 a0_5 a0_6 a0_7 = some (r1, r2, r3, r4, r5, r6, r7, r8)) :
  Calls Tryz.prog 18 #[.agg #[.string a0_0, .string a0_1, .int .i64 a0_2, .bool a0_3, .int .i64 a0_4, .int .i64 a0_5, .int .i64 a0_6, .int .i64 a0_7]] w fun e w' => e = .returned (.agg #[.string r1, .string r2, .int .i64 r3, .bool r4, .int .i64 r5, .int .i64 r6, .int .i64 r7, .int .i64 r8]) ∧ Below w.heap.size w w' := by
 have hu25 := Tryz.underlying25; have HB := Aside0.mk (Below.refl w.heap.size w); have H : (some (a0_0, a0_1, a0_2, false, 0, (-1), a0_6, a0_7)) = some (r1, r2, r3, r4, r5, r6, r7, r8) := h; clear h; simp only [Option.some.injEq, Prod.mk.injEq] at H; obtain ⟨rfl, rfl, rfl, rfl, rfl, rfl, rfl, rfl⟩ := H
 go_enter Tryz.func18, Tryz.ntmps18
 go_wp2_with (first | ((with_reducible refine gate_dst (N := 1) rfl ?_); refine box_event ?hg (N := 1) ?hd (cs := #[.string a0_0, .string a0_1, .int .i64 a0_2, .bool a0_3, .int .i64 a0_4, .int .i64 a0_5, .int .i64 a0_6, .int .i64 a0_7]) (t := 25) ?hr ?_; (case hd => rfl); (case hg => rfl); (case hr => first | (go_simp; done) | (go_simp; rfl)); intro gb552 hg w2 hbox hb; have n0_ := Aside0.mk (below_step bw hb); have n1_ := Aside0.mk (hbox); have n2_ := Aside0.mk ((by rw [hg]; exact (below_size bw) : w.heap.size ≤ gb552)); have n3_ := Aside0.mk ((by rw [hg]; exact (below_size bw) : w.heap.size ≤ gb552)); clear HB; have HB := n0_; have BK552 := n1_; have GW552 := n2_; have GE552 := n3_; clear n0_ n1_ n2_ n3_; clear hb hbox hg) | ((with_reducible refine gate_dst (N := 2) rfl ?_); refine box_event ?hg (N := 2) ?hd (cs := #[.string (⟨#[]⟩ : ByteArray), .string (⟨#[]⟩ : ByteArray), .int .i64 0, .bool false, .int .i64 0, .int .i64 0, .int .i64 0, .int .i64 0]) (t := 25) ?hr ?_; (case hd => rfl); (case hg => rfl); (case hr => first | (go_simp; done) | (go_simp; rfl)); intro gb553 hg w3 hbox hb; have n0_ := Aside0.mk (blk_below (g := gb552) (o := .cells #[.string a0_0, .string a0_1, .int .i64 a0_2, .bool a0_3, .int .i64 a0_4, .int .i64 a0_5, .int .i64 a0_6, .int .i64 a0_7] 25 (0, 0)) bk hb); have n1_ := Aside0.mk (below_step bwS hb); have n2_ := Aside0.mk (hbox); have n3_ := Aside0.mk ((by rw [hg]; exact (below_size bwS) : w.heap.size ≤ gb553)); have n4_ := Aside0.mk ((by rw [hg]; exact (below_size bwS) : w.heap.size ≤ gb553)); have n5_ := Aside0.mk ((by rw [hg]; exact Nat.ne_of_lt (blk_lt (g := gb552) (o := .cells #[.string a0_0, .string a0_1, .int .i64 a0_2, .bool a0_3, .int .i64 a0_4, .int .i64 a0_5, .int .i64 a0_6, .int .i64 a0_7] 25 (0, 0)) bk) : gb552 ≠ gb553)); have n6_ := Aside0.mk ((by rw [hg]; exact Nat.ne_of_gt (blk_lt (g := gb552) (o := .cells #[.string a0_0, .string a0_1, .int .i64 a0_2, .bool a0_3, .int .i64 a0_4, .int .i64 a0_5, .int .i64 a0_6, .int .i64 a0_7] 25 (0, 0)) bk) : gb553 ≠ gb552)); clear BK552; clear HB; have BK552 := n0_; have HB := n1_; have BK553 := n2_; have GW553 := n3_; have GE553 := n4_; have NB552_553 := n5_; have NB553_552 := n6_; clear n0_ n1_ n2_ n3_ n4_ n5_ n6_; clear hb hbox hg; have hnb4 := NB552_553.out; have hnc4 := NB553_552.out; have hcz5_0 : w3.cell? ⟨gb552, 0, none⟩ = some (.string a0_0) := (blk_cell BK552.out 0).trans rfl; have hcz5_1 : w3.cell? ⟨gb552, 1, none⟩ = some (.string a0_1) := (blk_cell BK552.out 1).trans rfl; have hcz5_2 : w3.cell? ⟨gb552, 2, none⟩ = some (.int .i64 a0_2) := (blk_cell BK552.out 2).trans rfl; have hcz5_3 : w3.cell? ⟨gb552, 3, none⟩ = some (.bool a0_3) := (blk_cell BK552.out 3).trans rfl; have hcz5_4 : w3.cell? ⟨gb552, 4, none⟩ = some (.int .i64 a0_4) := (blk_cell BK552.out 4).trans rfl; have hcz5_5 : w3.cell? ⟨gb552, 5, none⟩ = some (.int .i64 a0_5) := (blk_cell BK552.out 5).trans rfl; have hcz5_6 : w3.cell? ⟨gb552, 6, none⟩ = some (.int .i64 a0_6) := (blk_cell BK552.out 6).trans rfl; have hcz5_7 : w3.cell? ⟨gb552, 7, none⟩ = some (.int .i64 a0_7) := (blk_cell BK552.out 7).trans rfl; have hfz5_0 := blk_frozen BK552.out 0; have hfz5_1 := blk_frozen BK552.out 1; have hfz5_2 := blk_frozen BK552.out 2; have hfz5_3 := blk_frozen BK552.out 3; have hfz5_4 := blk_frozen BK552.out 4; have hfz5_5 := blk_frozen BK552.out 5; have hfz5_6 := blk_frozen BK552.out 6; have hfz5_7 := blk_frozen BK552.out 7; have hcz6_0 : w3.cell? ⟨gb553, 0, none⟩ = some (.string (⟨#[]⟩ : ByteArray)) := (blk_cell BK553.out 0).trans rfl; have hcz6_1 : w3.cell? ⟨gb553, 1, none⟩ = some (.string (⟨#[]⟩ : ByteArray)) := (blk_cell BK553.out 1).trans rfl; have hcz6_2 : w3.cell? ⟨gb553, 2, none⟩ = some (.int .i64 0) := (blk_cell BK553.out 2).trans rfl; have hcz6_3 : w3.cell? ⟨gb553, 3, none⟩ = some (.bool false) := (blk_cell BK553.out 3).trans rfl; have hcz6_4 : w3.cell? ⟨gb553, 4, none⟩ = some (.int .i64 0) := (blk_cell BK553.out 4).trans rfl; have hcz6_5 : w3.cell? ⟨gb553, 5, none⟩ = some (.int .i64 0) := (blk_cell BK553.out 5).trans rfl; have hcz6_6 : w3.cell? ⟨gb553, 6, none⟩ = some (.int .i64 0) := (blk_cell BK553.out 6).trans rfl; have hcz6_7 : w3.cell? ⟨gb553, 7, none⟩ = some (.int .i64 0) := (blk_cell BK553.out 7).trans rfl; have hfz6_0 := blk_frozen BK553.out 0; have hfz6_1 := blk_frozen BK553.out 1; have hfz6_2 := blk_frozen BK553.out 2; have hfz6_3 := blk_frozen BK553.out 3; have hfz6_4 := blk_frozen BK553.out 4; have hfz6_5 := blk_frozen BK553.out 5; have hfz6_6 := blk_frozen BK553.out 6; have hfz6_7 := blk_frozen BK553.out 7))
 refine bodyPost_ret (results_cell_row rfl _ _ gb553 25 #[.string a0_0, .string a0_1, .int .i64 a0_2, .bool false, .int .i64 0, .int .i64 (-1), .int .i64 a0_6, .int .i64 a0_7] (0, 0) _ rfl (by (with_reducible repeat (first | refine blk_drewN ?_ _ | refine blk_drew ?_ | refine blk_alloc ?_ _)); refine blk_put (cs := #[.string a0_0, .string a0_1, .int .i64 a0_2, .bool false, .int .i64 0, .int .i64 (-1), .int .i64 a0_6, .int .i64 0]) ?_ 7 _ rfl; (with_reducible repeat (first | refine blk_drewN ?_ _ | refine blk_drew ?_ | refine blk_alloc ?_ _)); refine blk_put (cs := #[.string a0_0, .string a0_1, .int .i64 a0_2, .bool false, .int .i64 0, .int .i64 (-1), .int .i64 0, .int .i64 0]) ?_ 6 _ rfl; (with_reducible repeat (first | refine blk_drewN ?_ _ | refine blk_drew ?_ | refine blk_alloc ?_ _)); refine blk_put (cs := #[.string a0_0, .string a0_1, .int .i64 a0_2, .bool false, .int .i64 0, .int .i64 0, .int .i64 0, .int .i64 0]) ?_ 5 _ rfl; (with_reducible repeat (first | refine blk_drewN ?_ _ | refine blk_drew ?_ | refine blk_alloc ?_ _)); refine blk_put (cs := #[.string a0_0, .string a0_1, .int .i64 a0_2, .bool false, .int .i64 0, .int .i64 0, .int .i64 0, .int .i64 0]) ?_ 4 _ rfl; (with_reducible repeat (first | refine blk_drewN ?_ _ | refine blk_drew ?_ | refine blk_alloc ?_ _)); refine blk_put (cs := #[.string a0_0, .string a0_1, .int .i64 a0_2, .bool false, .int .i64 0, .int .i64 0, .int .i64 0, .int .i64 0]) ?_ 3 _ rfl; (with_reducible repeat (first | refine blk_drewN ?_ _ | refine blk_drew ?_ | refine blk_alloc ?_ _)); refine blk_put (cs := #[.string a0_0, .string a0_1, .int .i64 0, .bool false, .int .i64 0, .int .i64 0, .int .i64 0, .int .i64 0]) ?_ 2 _ rfl; (with_reducible repeat (first | refine blk_drewN ?_ _ | refine blk_drew ?_ | refine blk_alloc ?_ _)); refine blk_put (cs := #[.string a0_0, .string (⟨#[]⟩ : ByteArray), .int .i64 0, .bool false, .int .i64 0, .int .i64 0, .int .i64 0, .int .i64 0]) ?_ 1 _ rfl; (with_reducible repeat (first | refine blk_drewN ?_ _ | refine blk_drew ?_ | refine blk_alloc ?_ _)); refine blk_put (cs := #[.string (⟨#[]⟩ : ByteArray), .string (⟨#[]⟩ : ByteArray), .int .i64 0, .bool false, .int .i64 0, .int .i64 0, .int .i64 0, .int .i64 0]) ?_ 0 _ rfl; (with_reducible repeat (first | refine blk_drewN ?_ _ | refine blk_drew ?_ | refine blk_alloc ?_ _)); refine blk_far ?_ NB553_552.out _; (with_reducible repeat (first | refine blk_drewN ?_ _ | refine blk_drew ?_ | refine blk_alloc ?_ _)); refine blk_far ?_ NB553_552.out _; (with_reducible repeat (first | refine blk_drewN ?_ _ | refine blk_drew ?_ | refine blk_alloc ?_ _)); refine blk_far ?_ NB553_552.out _; (with_reducible repeat (first | refine blk_drewN ?_ _ | refine blk_drew ?_ | refine blk_alloc ?_ _)); exact BK553.out) Tryz.underlying25 rfl (by kernel_rfl)) rfl ?_; exact ⟨ew, bwS⟩

def bulletinref33_New.f (a0_0 : ByteArray) (a0_1 : ByteArray) (a1 : Int) (a2 : Int) (a3 : Int) : Option (ByteArray × ByteArray × Int × Bool × Int × Int × Int × Int) := some (a0_0, a0_1, a1, false, 0, (-1), a2, a3)
set_option maxHeartbeats 8000000 in
set_option maxRecDepth 100000 in
theorem bulletinref33_New.calls (a0_0 : ByteArray) (a0_1 : ByteArray) (a1 : Int) (a2 : Int) (a3 : Int) (r1 : ByteArray) (r2 : ByteArray) (r3 : Int) (r4 : Bool) (r5 : Int) (r6 : Int) (r7 : Int) (r8 : Int) (w : World) (h : bulletinref33_New.f a0_0 a0_1 a1 a2 a3 = some (r1, r2, r3, r4, r5, r6, r7, r8)) :
  Calls Tryz.prog 20 #[.agg #[.string a0_0, .string a0_1], .int .i64 a1, .int .i64 a2, .int .i64 a3] w fun e w' => e = .returned (.agg #[.string r1, .string r2, .int .i64 r3, .bool r4, .int .i64 r5, .int .i64 r6, .int .i64 r7, .int .i64 r8]) ∧ Below w.heap.size w w' := by
 have hu23 := Tryz.underlying23; have hu25 := Tryz.underlying25; have HB := Aside0.mk (Below.refl w.heap.size w); have H : (some (a0_0, a0_1, a1, false, 0, (-1), a2, a3)) = some (r1, r2, r3, r4, r5, r6, r7, r8) := h; clear h; simp only [Option.some.injEq, Prod.mk.injEq] at H; obtain ⟨rfl, rfl, rfl, rfl, rfl, rfl, rfl, rfl⟩ := H
 go_enter Tryz.func20, Tryz.ntmps20
 go_wp2_with (first | ((with_reducible refine gate_dst (N := 4) rfl ?_); refine box_event ?hg (N := 4) ?hd (cs := #[.string a0_0, .string a0_1]) (t := 23) ?hr ?_; (case hd => rfl); (case hg => rfl); (case hr => first | (go_simp; done) | (go_simp; rfl)); intro gb554 hg w5 hbox hb; have n0_ := Aside0.mk (below_step bw hb); have n1_ := Aside0.mk (hbox); have n2_ := Aside0.mk ((by rw [hg]; exact (below_size bw) : w.heap.size ≤ gb554)); have n3_ := Aside0.mk ((by rw [hg]; exact (below_size bw) : w.heap.size ≤ gb554)); clear HB; have HB := n0_; have BK554 := n1_; have GW554 := n2_; have GE554 := n3_; clear n0_ n1_ n2_ n3_; clear hb hbox hg) | ((with_reducible refine gate_dst (N := 8) rfl ?_); refine box_event ?hg (N := 8) ?hd (cs := #[.string (⟨#[]⟩ : ByteArray), .string (⟨#[]⟩ : ByteArray), .int .i64 0, .bool false, .int .i64 0, .int .i64 0, .int .i64 0, .int .i64 0]) (t := 25) ?hr ?_; (case hd => rfl); (case hg => rfl); (case hr => first | (go_simp; done) | (go_simp; rfl)); intro gb555 hg w6 hbox hb; have n0_ := Aside0.mk (blk_below (g := gb554) (o := .cells #[.string a0_0, .string a0_1] 23 (0, 0)) bk hb); have n1_ := Aside0.mk (below_step bwS hb); have n2_ := Aside0.mk (hbox); have n3_ := Aside0.mk ((by rw [hg]; exact (below_size bwS) : w.heap.size ≤ gb555)); have n4_ := Aside0.mk ((by rw [hg]; exact (below_size bwS) : w.heap.size ≤ gb555)); have n5_ := Aside0.mk ((by rw [hg]; exact Nat.ne_of_lt (blk_lt (g := gb554) (o := .cells #[.string a0_0, .string a0_1] 23 (0, 0)) bk) : gb554 ≠ gb555)); have n6_ := Aside0.mk ((by rw [hg]; exact Nat.ne_of_gt (blk_lt (g := gb554) (o := .cells #[.string a0_0, .string a0_1] 23 (0, 0)) bk) : gb555 ≠ gb554)); clear BK554; clear HB; have BK554 := n0_; have HB := n1_; have BK555 := n2_; have GW555 := n3_; have GE555 := n4_; have NB554_555 := n5_; have NB555_554 := n6_; clear n0_ n1_ n2_ n3_ n4_ n5_ n6_; clear hb hbox hg; have hnb7 := NB554_555.out; have hnc7 := NB555_554.out; have hcz8_0 : w6.cell? ⟨gb554, 0, none⟩ = some (.string a0_0) := (blk_cell BK554.out 0).trans rfl; have hcz8_1 : w6.cell? ⟨gb554, 1, none⟩ = some (.string a0_1) := (blk_cell BK554.out 1).trans rfl; have hfz8_0 := blk_frozen BK554.out 0; have hfz8_1 := blk_frozen BK554.out 1; have hcz9_0 : w6.cell? ⟨gb555, 0, none⟩ = some (.string (⟨#[]⟩ : ByteArray)) := (blk_cell BK555.out 0).trans rfl; have hcz9_1 : w6.cell? ⟨gb555, 1, none⟩ = some (.string (⟨#[]⟩ : ByteArray)) := (blk_cell BK555.out 1).trans rfl; have hcz9_2 : w6.cell? ⟨gb555, 2, none⟩ = some (.int .i64 0) := (blk_cell BK555.out 2).trans rfl; have hcz9_3 : w6.cell? ⟨gb555, 3, none⟩ = some (.bool false) := (blk_cell BK555.out 3).trans rfl; have hcz9_4 : w6.cell? ⟨gb555, 4, none⟩ = some (.int .i64 0) := (blk_cell BK555.out 4).trans rfl; have hcz9_5 : w6.cell? ⟨gb555, 5, none⟩ = some (.int .i64 0) := (blk_cell BK555.out 5).trans rfl; have hcz9_6 : w6.cell? ⟨gb555, 6, none⟩ = some (.int .i64 0) := (blk_cell BK555.out 6).trans rfl; have hcz9_7 : w6.cell? ⟨gb555, 7, none⟩ = some (.int .i64 0) := (blk_cell BK555.out 7).trans rfl; have hfz9_0 := blk_frozen BK555.out 0; have hfz9_1 := blk_frozen BK555.out 1; have hfz9_2 := blk_frozen BK555.out 2; have hfz9_3 := blk_frozen BK555.out 3; have hfz9_4 := blk_frozen BK555.out 4; have hfz9_5 := blk_frozen BK555.out 5; have hfz9_6 := blk_frozen BK555.out 6; have hfz9_7 := blk_frozen BK555.out 7))
 refine bodyPost_ret (results_cell_row rfl _ _ gb555 25 #[.string a0_0, .string a0_1, .int .i64 a1, .bool false, .int .i64 0, .int .i64 (-1), .int .i64 a2, .int .i64 a3] (0, 0) _ rfl (by (with_reducible repeat (first | refine blk_drewN ?_ _ | refine blk_drew ?_ | refine blk_alloc ?_ _)); refine blk_put (cs := #[.string a0_0, .string a0_1, .int .i64 a1, .bool false, .int .i64 0, .int .i64 (-1), .int .i64 a2, .int .i64 0]) ?_ 7 _ rfl; (with_reducible repeat (first | refine blk_drewN ?_ _ | refine blk_drew ?_ | refine blk_alloc ?_ _)); refine blk_put (cs := #[.string a0_0, .string a0_1, .int .i64 a1, .bool false, .int .i64 0, .int .i64 (-1), .int .i64 0, .int .i64 0]) ?_ 6 _ rfl; (with_reducible repeat (first | refine blk_drewN ?_ _ | refine blk_drew ?_ | refine blk_alloc ?_ _)); refine blk_put (cs := #[.string a0_0, .string a0_1, .int .i64 a1, .bool false, .int .i64 0, .int .i64 0, .int .i64 0, .int .i64 0]) ?_ 5 _ rfl; (with_reducible repeat (first | refine blk_drewN ?_ _ | refine blk_drew ?_ | refine blk_alloc ?_ _)); refine blk_put (cs := #[.string a0_0, .string a0_1, .int .i64 a1, .bool false, .int .i64 0, .int .i64 0, .int .i64 0, .int .i64 0]) ?_ 4 _ rfl; (with_reducible repeat (first | refine blk_drewN ?_ _ | refine blk_drew ?_ | refine blk_alloc ?_ _)); refine blk_put (cs := #[.string a0_0, .string a0_1, .int .i64 a1, .bool false, .int .i64 0, .int .i64 0, .int .i64 0, .int .i64 0]) ?_ 3 _ rfl; (with_reducible repeat (first | refine blk_drewN ?_ _ | refine blk_drew ?_ | refine blk_alloc ?_ _)); refine blk_put (cs := #[.string a0_0, .string a0_1, .int .i64 0, .bool false, .int .i64 0, .int .i64 0, .int .i64 0, .int .i64 0]) ?_ 2 _ rfl; (with_reducible repeat (first | refine blk_drewN ?_ _ | refine blk_drew ?_ | refine blk_alloc ?_ _)); refine blk_put (cs := #[.string a0_0, .string (⟨#[]⟩ : ByteArray), .int .i64 0, .bool false, .int .i64 0, .int .i64 0, .int .i64 0, .int .i64 0]) ?_ 1 _ rfl; (with_reducible repeat (first | refine blk_drewN ?_ _ | refine blk_drew ?_ | refine blk_alloc ?_ _)); exact blk_put (cs := #[.string (⟨#[]⟩ : ByteArray), .string (⟨#[]⟩ : ByteArray), .int .i64 0, .bool false, .int .i64 0, .int .i64 0, .int .i64 0, .int .i64 0]) bk 0 _ rfl) Tryz.underlying25 rfl (by kernel_rfl)) rfl ?_; exact ⟨ew, bwS⟩

def bulletinlaw13_To.f (a0_0 : ByteArray) (a0_1 : ByteArray) : Option (ByteArray × ByteArray) := some (a0_0, a0_1)
set_option maxHeartbeats 8000000 in
set_option maxRecDepth 100000 in
theorem bulletinlaw13_To.calls (a0_0 : ByteArray) (a0_1 : ByteArray) (r1 : ByteArray) (r2 : ByteArray) (w : World) (h : bulletinlaw13_To.f a0_0 a0_1 = some (r1, r2)) :
  Calls Tryz.prog 32 #[.agg #[.string a0_0, .string a0_1]] w fun e w' => e = .returned (.agg #[.string r1, .string r2]) ∧ Below w.heap.size w w' := by
 have hu23 := Tryz.underlying23; have hu27 := Tryz.underlying27; have HB := Aside0.mk (Below.refl w.heap.size w); have H : (some (a0_0, a0_1)) = some (r1, r2) := h; clear h; simp only [Option.some.injEq, Prod.mk.injEq] at H; obtain ⟨rfl, rfl⟩ := H
 go_enter Tryz.func32, Tryz.ntmps32
 go_wp2_with (first | ((with_reducible refine gate_dst (N := 1) rfl ?_); refine box_event ?hg (N := 1) ?hd (cs := #[.string a0_0, .string a0_1]) (t := 23) ?hr ?_; (case hd => rfl); (case hg => rfl); (case hr => first | (go_simp; done) | (go_simp; rfl)); intro gb482 hg w2 hbox hb; have n0_ := Aside0.mk (below_step bw hb); have n1_ := Aside0.mk (hbox); have n2_ := Aside0.mk ((by rw [hg]; exact (below_size bw) : w.heap.size ≤ gb482)); have n3_ := Aside0.mk ((by rw [hg]; exact (below_size bw) : w.heap.size ≤ gb482)); clear HB; have HB := n0_; have BK482 := n1_; have GW482 := n2_; have GE482 := n3_; clear n0_ n1_ n2_ n3_; clear hb hbox hg) | ((with_reducible refine gate_dst (N := 2) rfl ?_); refine box_event ?hg (N := 2) ?hd (cs := #[.string (⟨#[]⟩ : ByteArray), .string (⟨#[]⟩ : ByteArray)]) (t := 27) ?hr ?_; (case hd => rfl); (case hg => rfl); (case hr => first | (go_simp; done) | (go_simp; rfl)); intro gb483 hg w3 hbox hb; have n0_ := Aside0.mk (blk_below (g := gb482) (o := .cells #[.string a0_0, .string a0_1] 23 (0, 0)) bk hb); have n1_ := Aside0.mk (below_step bwS hb); have n2_ := Aside0.mk (hbox); have n3_ := Aside0.mk ((by rw [hg]; exact (below_size bwS) : w.heap.size ≤ gb483)); have n4_ := Aside0.mk ((by rw [hg]; exact (below_size bwS) : w.heap.size ≤ gb483)); have n5_ := Aside0.mk ((by rw [hg]; exact Nat.ne_of_lt (blk_lt (g := gb482) (o := .cells #[.string a0_0, .string a0_1] 23 (0, 0)) bk) : gb482 ≠ gb483)); have n6_ := Aside0.mk ((by rw [hg]; exact Nat.ne_of_gt (blk_lt (g := gb482) (o := .cells #[.string a0_0, .string a0_1] 23 (0, 0)) bk) : gb483 ≠ gb482)); clear BK482; clear HB; have BK482 := n0_; have HB := n1_; have BK483 := n2_; have GW483 := n3_; have GE483 := n4_; have NB482_483 := n5_; have NB483_482 := n6_; clear n0_ n1_ n2_ n3_ n4_ n5_ n6_; clear hb hbox hg; have hnb4 := NB482_483.out; have hnc4 := NB483_482.out; have hcz5_0 : w3.cell? ⟨gb482, 0, none⟩ = some (.string a0_0) := (blk_cell BK482.out 0).trans rfl; have hcz5_1 : w3.cell? ⟨gb482, 1, none⟩ = some (.string a0_1) := (blk_cell BK482.out 1).trans rfl; have hfz5_0 := blk_frozen BK482.out 0; have hfz5_1 := blk_frozen BK482.out 1; have hcz6_0 : w3.cell? ⟨gb483, 0, none⟩ = some (.string (⟨#[]⟩ : ByteArray)) := (blk_cell BK483.out 0).trans rfl; have hcz6_1 : w3.cell? ⟨gb483, 1, none⟩ = some (.string (⟨#[]⟩ : ByteArray)) := (blk_cell BK483.out 1).trans rfl; have hfz6_0 := blk_frozen BK483.out 0; have hfz6_1 := blk_frozen BK483.out 1))
 refine bodyPost_ret (results_cell_row rfl _ _ gb483 27 #[.string a0_0, .string a0_1] (0, 0) _ rfl (by (with_reducible repeat (first | refine blk_drewN ?_ _ | refine blk_drew ?_ | refine blk_alloc ?_ _)); refine blk_put (cs := #[.string a0_0, .string (⟨#[]⟩ : ByteArray)]) ?_ 1 _ rfl; (with_reducible repeat (first | refine blk_drewN ?_ _ | refine blk_drew ?_ | refine blk_alloc ?_ _)); exact blk_put (cs := #[.string (⟨#[]⟩ : ByteArray), .string (⟨#[]⟩ : ByteArray)]) bk 0 _ rfl) Tryz.underlying27 rfl (by kernel_rfl)) rfl ?_; exact ⟨ew, bwS⟩

end Go.Proofs.YtnnlhpmkfijppaaGreatDoor.Fn
