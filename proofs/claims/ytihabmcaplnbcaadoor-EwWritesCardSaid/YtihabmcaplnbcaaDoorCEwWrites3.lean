/- A part of the proof of this sentence: EwWrites (19.2): any bytes, encoded, are as the document has them; of at most 600 bytes. -/
import Derived.Test.YtihabmcaplnbcaaDoorCEwWrites2
namespace Go.Proofs.YtihabmcaplnbcaaDoor.Fn
open Go.RowKit Go.Proofs.YtihabmcaplnbcaaDoorW.PrintWords Go.Proofs.YtihabmcaplnbcaaDoorW.PrintLast Go.Proofs.YtihabmcaplnbcaaDoorW.PrintMore
attribute [local go_sem] max2_int min2_int max_two min_two max_three min_three max_four min_four
set_option linter.unusedVariables false
set_option linter.unusedSimpArgs false

/-! ### bulletinref19_Encode: function 18 -/
mutual
def bulletinref19_Encode.l0 : Nat → ByteArray → Bool → Int → Option (ByteArray)
 | 0, _, _, _ => none
 | k + 1, x0, x3, x4 => if x4 < (x0.size : Int) then (if 0 ≤ x4 then (if (bt x0 x4) < 32 then (bulletinref19_Encode.l0 k x0 false (wrap64 (x4 + 1))) else (if (bt x0 x4) > 126 then (bulletinref19_Encode.l0 k x0 false (wrap64 (x4 + 1))) else (if (bt x0 x4) = 61 then (if (wrap64 (x4 + 1)) < (x0.size : Int) then (if 0 ≤ (wrap64 (x4 + 1)) then (if (bt x0 (wrap64 (x4 + 1))) = 63 then (bulletinref19_Encode.l0 k x0 false (wrap64 (x4 + 1))) else (bulletinref19_Encode.l0 k x0 x3 (wrap64 (x4 + 1)))) else (none)) else (bulletinref19_Encode.l0 k x0 x3 (wrap64 (x4 + 1)))) else (bulletinref19_Encode.l0 k x0 x3 (wrap64 (x4 + 1)))))) else (none)) else (if x3 = true then (some x0) else ((bulletinref06_Signs.f k x0).bind fun t509 => (bulletinref19_Encode.l1 k t509 (⟨#[61, 63, 117, 116, 102, 45, 56, 63, 113, 63]⟩ : ByteArray) 10 0)))
def bulletinref19_Encode.l1 : Nat → List Int → ByteArray → Int → Int → Option (ByteArray)
 | 0, _, _, _, _ => none
 | k + 1, x5, x6, x7, x8 => if x8 < (x5.length : Int) then (if 0 ≤ x8 then (if (rd x5 x8) < 0 then ((bulletinref19_written.f k 65533).bind fun t513 => (if (wrap64 ((wrap64 (x7 + (t513.size : Int))) + 2)) > 75 then (if x6.size + 13 ≤ 9223372036854775807 then (if (x6 ++ (⟨#[63, 61, 32, 61, 63, 117, 116, 102, 45, 56, 63, 113, 63]⟩ : ByteArray)).size + t513.size ≤ 9223372036854775807 then (bulletinref19_Encode.l1 k x5 ((x6 ++ (⟨#[63, 61, 32, 61, 63, 117, 116, 102, 45, 56, 63, 113, 63]⟩ : ByteArray)) ++ t513) (wrap64 (10 + (t513.size : Int))) (wrap64 (x8 + 1))) else (none)) else (none)) else (if x6.size + t513.size ≤ 9223372036854775807 then (bulletinref19_Encode.l1 k x5 (x6 ++ t513) (wrap64 (x7 + (t513.size : Int))) (wrap64 (x8 + 1))) else (none)))) else ((bulletinref19_written.f k (rd x5 x8)).bind fun t514 => (if (wrap64 ((wrap64 (x7 + (t514.size : Int))) + 2)) > 75 then (if x6.size + 13 ≤ 9223372036854775807 then (if (x6 ++ (⟨#[63, 61, 32, 61, 63, 117, 116, 102, 45, 56, 63, 113, 63]⟩ : ByteArray)).size + t514.size ≤ 9223372036854775807 then (bulletinref19_Encode.l1 k x5 ((x6 ++ (⟨#[63, 61, 32, 61, 63, 117, 116, 102, 45, 56, 63, 113, 63]⟩ : ByteArray)) ++ t514) (wrap64 (10 + (t514.size : Int))) (wrap64 (x8 + 1))) else (none)) else (none)) else (if x6.size + t514.size ≤ 9223372036854775807 then (bulletinref19_Encode.l1 k x5 (x6 ++ t514) (wrap64 (x7 + (t514.size : Int))) (wrap64 (x8 + 1))) else (none))))) else (none)) else (if x6.size + 2 ≤ 9223372036854775807 then (some (x6 ++ (⟨#[63, 61]⟩ : ByteArray))) else (none))
end
def bulletinref19_Encode.f (k : Nat) (a0 : ByteArray) : Option (ByteArray) := bulletinref19_Encode.l0 k a0 true 0
set_option maxHeartbeats 8000000 in
set_option maxRecDepth 100000 in
theorem bulletinref19_Encode.calls (k : Nat) (a0 : ByteArray) (r : ByteArray) (w : World) (h : bulletinref19_Encode.f k a0 = some r) :
  Calls Tryd.prog 18 #[.string a0] w fun e w' => e = .returned (.string r) ∧ Below w.heap.size w w' := by
 have HB := Aside0.mk (Below.refl w.heap.size w)
 have H : (bulletinref19_Encode.l0 k a0 true 0) = some r := h
 clear h
 have H' := Aside0.mk H
 clear H
 go_enter Tryd.func18, Tryd.ntmps18
 go_wp2
 go_loopg [3, 4] k (fun kq v3 v4 w' => ∃ (x3_1 : Bool) (x4_1 : Int), v3 = .bool x3_1 ∧ v4 = .int .i64 x4_1 ∧ Aside0 (bulletinref19_Encode.l0 kq a0 x3_1 x4_1 = some r) ∧ Aside0 (kq ≤ k) ∧ Aside0 (Below w.heap.size w w'))
 case atStart => exact ⟨(true), (0), (by first | rfl | (simp; done) | (simp [*]; done) | (simp [nil_ne]; done) | (simp [u8_w, i64w_]; done) | (simp [size_lit]; done) | (simp; unfold wrap64; omega)), (by first | rfl | (simp; done) | (simp [*]; done) | (simp [nil_ne]; done) | (simp [u8_w, i64w_]; done) | (simp [size_lit]; done) | (simp; unfold wrap64; omega)), H', ⟨Nat.le_refl _⟩, ⟨bw⟩⟩
 case round =>
  clear H'
  try clear c1
  obtain ⟨x3_1, x4_1, rfl, rfl, HA, HK1, HB⟩ := hrel
  cases gk with
  | zero => exact absurd HA.out (by simp [bulletinref19_Encode.l0])
  | succ k1 =>
   have H := HA.out
   clear HA
   simp only [bulletinref19_Encode.l0] at H
   by_cases c2 : x4_1 < (a0.size : Int)
   ·rw [if_pos c2] at H
    have c2b0 : decide (x4_1 < (a0.size : Int)) = true := decide_eq_true c2
    clear c2
    by_cases c3 : 0 ≤ x4_1
    ·rw [if_pos c3] at H
     have c3b0 : decide (0 ≤ x4_1) = true := decide_eq_true c3
     clear c3
     by_cases c5 : (bt a0 x4_1) < 32
     ·rw [if_pos c5] at H
      have c5b0 : decide ((bt a0 x4_1) < 32) = true := decide_eq_true c5
      clear c5
      have H' := Aside0.mk H
      clear H
      have p4 : 0 ≤ (x4_1 : Int) := od
      have q4 : x4_1 < (a0.size : Int) := od
      have hx4 := bt_at a0 x4_1
      replace p4 := eq_true p4
      replace q4 := eq_true q4
      go_wp2
      go_roundg k1
      case measure => have := HK1.out; omega
      case rel => exact ⟨(false), (wrap64 (x4_1 + 1)), (by first | rfl | (simp; done) | (simp [*]; done) | (simp [nil_ne]; done) | (simp [u8_w, i64w_]; done) | (simp [size_lit]; done) | (simp; unfold wrap64; omega)), (by first | rfl | (simp; done) | (simp [*]; done) | (simp [nil_ne]; done) | (simp [u8_w, i64w_]; done) | (simp [size_lit]; done) | (simp; unfold wrap64; omega)), H', ⟨by have := HK1.out; omega⟩, ⟨bw⟩⟩
     ·rw [if_neg c5] at H
      have c5b0 : decide ((bt a0 x4_1) < 32) = false := decide_eq_false c5
      clear c5
      by_cases c7 : (bt a0 x4_1) > 126
      ·rw [if_pos c7] at H
       have c7b0 : decide (126 < (bt a0 x4_1)) = true := decide_eq_true c7
       clear c7
       have H' := Aside0.mk H
       clear H
       have p4 : 0 ≤ (x4_1 : Int) := od
       have q4 : x4_1 < (a0.size : Int) := od
       have hx4 := bt_at a0 x4_1
       replace p4 := eq_true p4
       replace q4 := eq_true q4
       have p6 : 0 ≤ (x4_1 : Int) := od
       have q6 : x4_1 < (a0.size : Int) := od
       have hx6 := bt_at a0 x4_1
       replace p6 := eq_true p6
       replace q6 := eq_true q6
       go_wp2
       go_roundg k1
       case measure => have := HK1.out; omega
       case rel => exact ⟨(false), (wrap64 (x4_1 + 1)), (by first | rfl | (simp; done) | (simp [*]; done) | (simp [nil_ne]; done) | (simp [u8_w, i64w_]; done) | (simp [size_lit]; done) | (simp; unfold wrap64; omega)), (by first | rfl | (simp; done) | (simp [*]; done) | (simp [nil_ne]; done) | (simp [u8_w, i64w_]; done) | (simp [size_lit]; done) | (simp; unfold wrap64; omega)), H', ⟨by have := HK1.out; omega⟩, ⟨bw⟩⟩
      ·rw [if_neg c7] at H
       have c7b0 : decide (126 < (bt a0 x4_1)) = false := decide_eq_false c7
       clear c7
       by_cases c9 : (bt a0 x4_1) = 61
       ·rw [if_pos c9] at H
        have c9b0 : ((bt a0 x4_1) == 61) = true := beq_iff_eq.mpr c9
        have c9b1 : ((bt a0 x4_1) != 61) = false := bne_eq_false_iff_eq.mpr c9
        clear c9
        by_cases c10 : (wrap64 (x4_1 + 1)) < (a0.size : Int)
        ·rw [if_pos c10] at H
         have c10b0 : decide ((wrap64 (x4_1 + 1)) < (a0.size : Int)) = true := decide_eq_true c10
         clear c10
         obtain ⟨ji11, hji11⟩ : ∃ j_ : Int, (wrap64 (x4_1 + 1)) = j_ := ⟨_, rfl⟩
         replace H : (if 0 ≤ (ji11) then (if (bt a0 (ji11)) = 63 then (bulletinref19_Encode.l0 k1 a0 false ji11) else (bulletinref19_Encode.l0 k1 a0 x3_1 ji11)) else (none)) = some r := by first | (rw [hji11] at H; exact H) | (simp only [hji11] at H ⊢; exact H)
         (try rw [hji11] at c10b0)
         have hji11w : (IntKind.i64.wrap (x4_1 + 1)) = ji11 := (i64_w _).trans hji11
         by_cases c12 : 0 ≤ (ji11)
         ·rw [if_pos c12] at H
          have c12b0 : decide (0 ≤ (ji11)) = true := decide_eq_true c12
          clear c12
          by_cases c14 : (bt a0 (ji11)) = 63
          ·rw [if_pos c14] at H
           have c14b0 : ((bt a0 (ji11)) == 63) = true := beq_iff_eq.mpr c14
           have c14b1 : ((bt a0 (ji11)) != 63) = false := bne_eq_false_iff_eq.mpr c14
           clear c14
           have H' := Aside0.mk H
           clear H
           have p4 : 0 ≤ (x4_1 : Int) := od
           have q4 : x4_1 < (a0.size : Int) := od
           have hx4 := bt_at a0 x4_1
           replace p4 := eq_true p4
           replace q4 := eq_true q4
           have p6 : 0 ≤ (x4_1 : Int) := od
           have q6 : x4_1 < (a0.size : Int) := od
           have hx6 := bt_at a0 x4_1
           replace p6 := eq_true p6
           replace q6 := eq_true q6
           have p8 : 0 ≤ (x4_1 : Int) := od
           have q8 : x4_1 < (a0.size : Int) := od
           have hx8 := bt_at a0 x4_1
           replace p8 := eq_true p8
           replace q8 := eq_true q8
           have p13 : 0 ≤ ((ji11) : Int) := od
           have q13 : (ji11) < (a0.size : Int) := od
           have hx13 := bt_at a0 (ji11)
           replace p13 := eq_true p13
           replace q13 := eq_true q13
           go_wp2
           go_roundg k1
           case measure => have := HK1.out; omega
           case rel => exact ⟨(false), (ji11), (by first | rfl | (simp; done) | (simp [*]; done) | (simp [nil_ne]; done) | (simp [u8_w, i64w_]; done) | (simp [size_lit]; done) | (simp; unfold wrap64; omega)), (by first | rfl | (simp; done) | (simp only [← hji11] <;> (first | rfl | simp)) | (simp [*]; done) | (simp [nil_ne]; done) | (simp [u8_w, i64w_]; done) | (simp [size_lit]; done) | (simp; unfold wrap64; omega)), H', ⟨by have := HK1.out; omega⟩, ⟨bw⟩⟩
          ·rw [if_neg c14] at H
           have c14b0 : ((bt a0 (ji11)) == 63) = false := beq_eq_false_iff_ne.mpr c14
           have c14b1 : ((bt a0 (ji11)) != 63) = true := bne_iff_ne.mpr c14
           have H' := Aside0.mk H
           clear H
           have p4 : 0 ≤ (x4_1 : Int) := od
           have q4 : x4_1 < (a0.size : Int) := od
           have hx4 := bt_at a0 x4_1
           replace p4 := eq_true p4
           replace q4 := eq_true q4
           have p6 : 0 ≤ (x4_1 : Int) := od
           have q6 : x4_1 < (a0.size : Int) := od
           have hx6 := bt_at a0 x4_1
           replace p6 := eq_true p6
           replace q6 := eq_true q6
           have p8 : 0 ≤ (x4_1 : Int) := od
           have q8 : x4_1 < (a0.size : Int) := od
           have hx8 := bt_at a0 x4_1
           replace p8 := eq_true p8
           replace q8 := eq_true q8
           have p13 : 0 ≤ ((ji11) : Int) := od
           have q13 : (ji11) < (a0.size : Int) := od
           have hx13 := bt_at a0 (ji11)
           replace p13 := eq_true p13
           replace q13 := eq_true q13
           go_wp2
           go_roundg k1
           case measure => have := HK1.out; omega
           case rel => exact ⟨(x3_1), (ji11), (by first | rfl | (simp; done) | (simp [*]; done) | (simp [nil_ne]; done) | (simp [u8_w, i64w_]; done) | (simp [size_lit]; done) | (simp; unfold wrap64; omega)), (by first | rfl | (simp; done) | (simp only [← hji11] <;> (first | rfl | simp)) | (simp [*]; done) | (simp [nil_ne]; done) | (simp [u8_w, i64w_]; done) | (simp [size_lit]; done) | (simp; unfold wrap64; omega)), H', ⟨by have := HK1.out; omega⟩, ⟨bw⟩⟩
         ·rw [if_neg c12] at H
          exact absurd H (by simp)
        ·rw [if_neg c10] at H
         have c10b0 : decide ((wrap64 (x4_1 + 1)) < (a0.size : Int)) = false := decide_eq_false c10
         clear c10
         have H' := Aside0.mk H
         clear H
         have p4 : 0 ≤ (x4_1 : Int) := od
         have q4 : x4_1 < (a0.size : Int) := od
         have hx4 := bt_at a0 x4_1
         replace p4 := eq_true p4
         replace q4 := eq_true q4
         have p6 : 0 ≤ (x4_1 : Int) := od
         have q6 : x4_1 < (a0.size : Int) := od
         have hx6 := bt_at a0 x4_1
         replace p6 := eq_true p6
         replace q6 := eq_true q6
         have p8 : 0 ≤ (x4_1 : Int) := od
         have q8 : x4_1 < (a0.size : Int) := od
         have hx8 := bt_at a0 x4_1
         replace p8 := eq_true p8
         replace q8 := eq_true q8
         go_wp2
         go_roundg k1
         case measure => have := HK1.out; omega
         case rel => exact ⟨(x3_1), (wrap64 (x4_1 + 1)), (by first | rfl | (simp; done) | (simp [*]; done) | (simp [nil_ne]; done) | (simp [u8_w, i64w_]; done) | (simp [size_lit]; done) | (simp; unfold wrap64; omega)), (by first | rfl | (simp; done) | (simp [*]; done) | (simp [nil_ne]; done) | (simp [u8_w, i64w_]; done) | (simp [size_lit]; done) | (simp; unfold wrap64; omega)), H', ⟨by have := HK1.out; omega⟩, ⟨bw⟩⟩
       ·rw [if_neg c9] at H
        have c9b0 : ((bt a0 x4_1) == 61) = false := beq_eq_false_iff_ne.mpr c9
        have c9b1 : ((bt a0 x4_1) != 61) = true := bne_iff_ne.mpr c9
        have H' := Aside0.mk H
        clear H
        have p4 : 0 ≤ (x4_1 : Int) := od
        have q4 : x4_1 < (a0.size : Int) := od
        have hx4 := bt_at a0 x4_1
        replace p4 := eq_true p4
        replace q4 := eq_true q4
        have p6 : 0 ≤ (x4_1 : Int) := od
        have q6 : x4_1 < (a0.size : Int) := od
        have hx6 := bt_at a0 x4_1
        replace p6 := eq_true p6
        replace q6 := eq_true q6
        have p8 : 0 ≤ (x4_1 : Int) := od
        have q8 : x4_1 < (a0.size : Int) := od
        have hx8 := bt_at a0 x4_1
        replace p8 := eq_true p8
        replace q8 := eq_true q8
        go_wp2
        go_roundg k1
        case measure => have := HK1.out; omega
        case rel => exact ⟨(x3_1), (wrap64 (x4_1 + 1)), (by first | rfl | (simp; done) | (simp [*]; done) | (simp [nil_ne]; done) | (simp [u8_w, i64w_]; done) | (simp [size_lit]; done) | (simp; unfold wrap64; omega)), (by first | rfl | (simp; done) | (simp [*]; done) | (simp [nil_ne]; done) | (simp [u8_w, i64w_]; done) | (simp [size_lit]; done) | (simp; unfold wrap64; omega)), H', ⟨by have := HK1.out; omega⟩, ⟨bw⟩⟩
    ·rw [if_neg c3] at H
     exact absurd H (by simp)
   ·rw [if_neg c2] at H
    have c2b0 : decide (x4_1 < (a0.size : Int)) = false := decide_eq_false c2
    clear c2
    by_cases c15 : x3_1 = true
    ·subst c15
     have H1 : (some a0) = some r := by rw [if_pos rfl] at H; exact H
     clear H
     have H := H1
     clear H1
     obtain rfl := Option.some.inj H
     go_wp2
     go_ret
     exact ⟨by first | rfl | (simp [errW_none, errW_some] <;> rfl) | (simp [*, errW_none, errW_some] <;> rfl), bw⟩
    ·replace c15 := Bool.eq_false_iff.mpr c15
     subst c15
     have H1 : ((bulletinref06_Signs.f k1 a0).bind fun t509 => (bulletinref19_Encode.l1 k1 t509 (⟨#[61, 63, 117, 116, 102, 45, 56, 63, 113, 63]⟩ : ByteArray) 10 0)) = some r := by rw [if_neg (show ¬ (false = true) by decide)] at H; exact H
     clear H
     have H := H1
     clear H1
     replace H := Option.bind_eq_some_iff.mp H
     obtain ⟨t509, A160, H⟩ := H
     replace H : (bulletinref19_Encode.l1 k1 t509 (⟨#[61, 63, 117, 116, 102, 45, 56, 63, 113, 63]⟩ : ByteArray) 10 0) = some r := H
     have A16 := Aside0.mk A160
     clear A160
     have H' := Aside0.mk H
     clear H
     go_wp2_with (first | ((with_reducible refine gate_callee (f := 42) rfl ?_); refine goesL_ (some 50) rfl rfl Tryd.func42 (by kernel_rfl) rfl #[.string a0] rfl am ?_; (with_reducible refine (bulletinref06_Signs.calls k1 a0 t509 _ A16.out).mono ?_); rintro e w17 ⟨v510, rfl, ho0, hb⟩; refine ⟨_, rfl, ?_⟩; have n0_ := Aside0.mk (Kd.R_lower ho0 (below_size bw)); have n1_ := Aside0.mk (below_step bw hb); clear HB; have HO511 := n0_; have HB := n1_; clear n0_ n1_; (try clear hb); (try clear hb2); (try clear hk); (try clear hi); (try clear ho0)))
     go_loopg [6, 7, 8] k1 (fun kq v6 v7 v8 w' => ∃ (x6_2 : ByteArray) (x7_2 : Int) (x8_2 : Int), v6 = .string x6_2 ∧ v7 = .int .i64 x7_2 ∧ v8 = .int .i64 x8_2 ∧ Aside0 (bulletinref19_Encode.l1 kq t509 x6_2 x7_2 x8_2 = some r) ∧ Aside0 (kq ≤ k1) ∧ Aside0 (Kd.R (Kd.int .i64) 3 w' w.heap.size (fun _ => True) v510 t509) ∧ Aside0 (Below w.heap.size w w'))
     case atStart => exact ⟨((⟨#[61, 63, 117, 116, 102, 45, 56, 63, 113, 63]⟩ : ByteArray)), (10), (0), (by first | rfl | (simp; done) | (simp [*]; done) | (simp [nil_ne]; done) | (simp [u8_w, i64w_]; done) | (simp [size_lit]; done) | (simp; unfold wrap64; omega)), (by first | rfl | (simp; done) | (simp [*]; done) | (simp [nil_ne]; done) | (simp [u8_w, i64w_]; done) | (simp [size_lit]; done) | (simp; unfold wrap64; omega)), (by first | rfl | (simp; done) | (simp [*]; done) | (simp [nil_ne]; done) | (simp [u8_w, i64w_]; done) | (simp [size_lit]; done) | (simp; unfold wrap64; omega)), H', ⟨Nat.le_refl _⟩, ⟨by (with_reducible repeat (first | apply Kd.R_alloc | apply Kd.R_drewN | apply Kd.R_drew)); exact HO511.out⟩, ⟨bw⟩⟩
     case round =>
      clear H'
      try clear c1
      try clear p1
      try clear q1
      try clear hx1
      try clear c2
      try clear c2b0
      try clear p2
      try clear c3
      try clear c3b0
      try clear c4
      try clear p4
      try clear q4
      try clear hx4
      try clear c5
      try clear c5b0
      try clear p6
      try clear q6
      try clear hx6
      try clear c7
      try clear c7b0
      try clear p8
      try clear q8
      try clear hx8
      try clear c9
      try clear c9b0
      try clear c9b1
      try clear c10
      try clear c10b0
      try clear c12
      try clear c12b0
      try clear p13
      try clear q13
      try clear hx13
      try clear c14
      try clear c14b0
      try clear c14b1
      try clear c15
      try clear p13
      try clear p4
      try clear p6
      try clear p8
      try clear q13
      try clear q4
      try clear q6
      try clear q8
      obtain ⟨x6_2, x7_2, x8_2, rfl, rfl, rfl, HA, HK2, HO_5, HB⟩ := hrel
      cases gk with
      | zero => exact absurd HA.out (by simp [bulletinref19_Encode.l1])
      | succ k2 =>
       have H := HA.out
       clear HA
       simp only [bulletinref19_Encode.l1] at H
       by_cases c18 : x8_2 < (t509.length : Int)
       ·rw [if_pos c18] at H
        have c18b0 : decide (x8_2 < (t509.length : Int)) = true := decide_eq_true c18
        clear c18
        by_cases c19 : 0 ≤ x8_2
        ·rw [if_pos c19] at H
         have c19b0 : decide (0 ≤ x8_2) = true := decide_eq_true c19
         clear c19
         by_cases c20 : (rd t509 x8_2) < 0
         ·rw [if_pos c20] at H
          have c20b0 : decide ((rd t509 x8_2) < 0) = true := decide_eq_true c20
          clear c20
          replace H := Option.bind_eq_some_iff.mp H
          obtain ⟨t513, A210, H⟩ := H
          replace H : (if (wrap64 ((wrap64 (x7_2 + (t513.size : Int))) + 2)) > 75 then (if x6_2.size + 13 ≤ 9223372036854775807 then (if (x6_2 ++ (⟨#[63, 61, 32, 61, 63, 117, 116, 102, 45, 56, 63, 113, 63]⟩ : ByteArray)).size + t513.size ≤ 9223372036854775807 then (bulletinref19_Encode.l1 k2 t509 ((x6_2 ++ (⟨#[63, 61, 32, 61, 63, 117, 116, 102, 45, 56, 63, 113, 63]⟩ : ByteArray)) ++ t513) (wrap64 (10 + (t513.size : Int))) (wrap64 (x8_2 + 1))) else (none)) else (none)) else (if x6_2.size + t513.size ≤ 9223372036854775807 then (bulletinref19_Encode.l1 k2 t509 (x6_2 ++ t513) (wrap64 (x7_2 + (t513.size : Int))) (wrap64 (x8_2 + 1))) else (none))) = some r := H
          have A21 := Aside0.mk A210
          clear A210
          by_cases c22 : (wrap64 ((wrap64 (x7_2 + (t513.size : Int))) + 2)) > 75
          ·rw [if_pos c22] at H
           have c22b0 : decide (75 < (wrap64 ((wrap64 (x7_2 + (t513.size : Int))) + 2))) = true := decide_eq_true c22
           clear c22
           by_cases c23 : x6_2.size + 13 ≤ 9223372036854775807
           ·rw [if_pos c23] at H
            have c23b0 := eq_true c23
            have c23b1 : decide (x6_2.size + 13 ≤ 9223372036854775807) = true := decide_eq_true c23
            try have c23b2 : (9223372036854775807 < x6_2.size + 13) = False := eq_false (Nat.not_lt.2 c23)
            by_cases c24 : (x6_2 ++ (⟨#[63, 61, 32, 61, 63, 117, 116, 102, 45, 56, 63, 113, 63]⟩ : ByteArray)).size + t513.size ≤ 9223372036854775807
            ·rw [if_pos c24] at H
             have c24b0 := eq_true c24
             have c24b1 : decide ((x6_2 ++ (⟨#[63, 61, 32, 61, 63, 117, 116, 102, 45, 56, 63, 113, 63]⟩ : ByteArray)).size + t513.size ≤ 9223372036854775807) = true := decide_eq_true c24
             try have c24b2 : (9223372036854775807 < (x6_2 ++ (⟨#[63, 61, 32, 61, 63, 117, 116, 102, 45, 56, 63, 113, 63]⟩ : ByteArray)).size + t513.size) = False := eq_false (Nat.not_lt.2 c24)
             try (have c24b3 := c24; simp only [ByteArray.size_append, size_lit, ByteArray.size_extract, List.size_toArray, List.length_cons, List.length_nil, Nat.zero_add, Nat.reduceAdd] at c24b3; have c24b4 := eq_false (Nat.not_lt.2 c24b3))
             have H' := Aside0.mk H
             clear H
             obtain ⟨Ao25, co25, eo25⟩ := Kd.R_slice HO_5.out
             subst eo25
             have p512 : 0 ≤ (x8_2 : Int) := od
             have q512 : x8_2 < (t509.length : Int) := od
             obtain ⟨ad512, e512, hx512_0⟩ := Kd.at_int (Kd.R_reads' HO_5.out).2.2 x8_2 p512 q512
             cases e512
             replace p512 := eq_true p512
             replace q512 := eq_true q512
             go_wp2_with (first | ((with_reducible refine gate_callee (f := 43) rfl ?_); refine goesL_ (some 64) rfl rfl Tryd.func43 (by kernel_rfl) rfl #[.int .i64 65533] rfl am ?_; (with_reducible refine (bulletinref19_written.calls k2 65533 t513 _ A21.out).mono ?_); rintro e w26 ⟨rfl, hb⟩; refine ⟨_, rfl, ?_⟩; have n0_ := Aside0.mk (Kd.R_below (by (with_reducible repeat (first | apply Kd.R_alloc | apply Kd.R_drewN | apply Kd.R_drew)); exact HO_5.out) hb); have n1_ := Aside0.mk (below_step bw hb); clear HO_5; clear HB; have HO_5 := n0_; have HB := n1_; clear n0_ n1_; (try clear hb); (try clear hb2); (try clear hk); (try clear hi)))
             go_roundg k2
             case measure => have := HK1.out; have := HK2.out; omega
             case rel => exact ⟨((x6_2 ++ (⟨#[63, 61, 32, 61, 63, 117, 116, 102, 45, 56, 63, 113, 63]⟩ : ByteArray)) ++ t513), (wrap64 (10 + (t513.size : Int))), (wrap64 (x8_2 + 1)), (by first | rfl | (simp; done) | (simp [*]; done) | (simp [nil_ne]; done) | (simp [u8_w, i64w_]; done) | (simp [size_lit]; done) | (simp; unfold wrap64; omega)), (by first | rfl | (simp; done) | (simp [*]; done) | (simp [nil_ne]; done) | (simp [u8_w, i64w_]; done) | (simp [size_lit]; done) | (simp; unfold wrap64; omega)), (by first | rfl | (simp; done) | (simp [*]; done) | (simp [nil_ne]; done) | (simp [u8_w, i64w_]; done) | (simp [size_lit]; done) | (simp; unfold wrap64; omega)), H', ⟨by have := HK1.out; have := HK2.out; omega⟩, ⟨by (with_reducible repeat (first | apply Kd.R_alloc | apply Kd.R_drewN | apply Kd.R_drew)); exact HO_5.out⟩, ⟨bw⟩⟩
            ·rw [if_neg c24] at H
             exact absurd H (by simp)
           ·rw [if_neg c23] at H
            exact absurd H (by simp)
          ·rw [if_neg c22] at H
           have c22b0 : decide (75 < (wrap64 ((wrap64 (x7_2 + (t513.size : Int))) + 2))) = false := decide_eq_false c22
           clear c22
           by_cases c27 : x6_2.size + t513.size ≤ 9223372036854775807
           ·rw [if_pos c27] at H
            have c27b0 := eq_true c27
            have c27b1 : decide (x6_2.size + t513.size ≤ 9223372036854775807) = true := decide_eq_true c27
            try have c27b2 : (9223372036854775807 < x6_2.size + t513.size) = False := eq_false (Nat.not_lt.2 c27)
            have H' := Aside0.mk H
            clear H
            obtain ⟨Ao28, co28, eo28⟩ := Kd.R_slice HO_5.out
            subst eo28
            have p512 : 0 ≤ (x8_2 : Int) := od
            have q512 : x8_2 < (t509.length : Int) := od
            obtain ⟨ad512, e512, hx512_0⟩ := Kd.at_int (Kd.R_reads' HO_5.out).2.2 x8_2 p512 q512
            cases e512
            replace p512 := eq_true p512
            replace q512 := eq_true q512
            go_wp2_with (first | ((with_reducible refine gate_callee (f := 43) rfl ?_); refine goesL_ (some 64) rfl rfl Tryd.func43 (by kernel_rfl) rfl #[.int .i64 65533] rfl am ?_; (with_reducible refine (bulletinref19_written.calls k2 65533 t513 _ A21.out).mono ?_); rintro e w29 ⟨rfl, hb⟩; refine ⟨_, rfl, ?_⟩; have n0_ := Aside0.mk (Kd.R_below (by (with_reducible repeat (first | apply Kd.R_alloc | apply Kd.R_drewN | apply Kd.R_drew)); exact HO_5.out) hb); have n1_ := Aside0.mk (below_step bw hb); clear HO_5; clear HB; have HO_5 := n0_; have HB := n1_; clear n0_ n1_; (try clear hb); (try clear hb2); (try clear hk); (try clear hi)))
            go_roundg k2
            case measure => have := HK1.out; have := HK2.out; omega
            case rel => exact ⟨(x6_2 ++ t513), (wrap64 (x7_2 + (t513.size : Int))), (wrap64 (x8_2 + 1)), (by first | rfl | (simp; done) | (simp [*]; done) | (simp [nil_ne]; done) | (simp [u8_w, i64w_]; done) | (simp [size_lit]; done) | (simp; unfold wrap64; omega)), (by first | rfl | (simp; done) | (simp [*]; done) | (simp [nil_ne]; done) | (simp [u8_w, i64w_]; done) | (simp [size_lit]; done) | (simp; unfold wrap64; omega)), (by first | rfl | (simp; done) | (simp [*]; done) | (simp [nil_ne]; done) | (simp [u8_w, i64w_]; done) | (simp [size_lit]; done) | (simp; unfold wrap64; omega)), H', ⟨by have := HK1.out; have := HK2.out; omega⟩, ⟨by (with_reducible repeat (first | apply Kd.R_alloc | apply Kd.R_drewN | apply Kd.R_drew)); exact HO_5.out⟩, ⟨bw⟩⟩
           ·rw [if_neg c27] at H
            exact absurd H (by simp)
         ·rw [if_neg c20] at H
          have c20b0 : decide ((rd t509 x8_2) < 0) = false := decide_eq_false c20
          clear c20
          replace H := Option.bind_eq_some_iff.mp H
          obtain ⟨t514, A300, H⟩ := H
          replace H : (if (wrap64 ((wrap64 (x7_2 + (t514.size : Int))) + 2)) > 75 then (if x6_2.size + 13 ≤ 9223372036854775807 then (if (x6_2 ++ (⟨#[63, 61, 32, 61, 63, 117, 116, 102, 45, 56, 63, 113, 63]⟩ : ByteArray)).size + t514.size ≤ 9223372036854775807 then (bulletinref19_Encode.l1 k2 t509 ((x6_2 ++ (⟨#[63, 61, 32, 61, 63, 117, 116, 102, 45, 56, 63, 113, 63]⟩ : ByteArray)) ++ t514) (wrap64 (10 + (t514.size : Int))) (wrap64 (x8_2 + 1))) else (none)) else (none)) else (if x6_2.size + t514.size ≤ 9223372036854775807 then (bulletinref19_Encode.l1 k2 t509 (x6_2 ++ t514) (wrap64 (x7_2 + (t514.size : Int))) (wrap64 (x8_2 + 1))) else (none))) = some r := H
          have A30 := Aside0.mk A300
          clear A300
          by_cases c31 : (wrap64 ((wrap64 (x7_2 + (t514.size : Int))) + 2)) > 75
          ·rw [if_pos c31] at H
           have c31b0 : decide (75 < (wrap64 ((wrap64 (x7_2 + (t514.size : Int))) + 2))) = true := decide_eq_true c31
           clear c31
           by_cases c32 : x6_2.size + 13 ≤ 9223372036854775807
           ·rw [if_pos c32] at H
            have c32b0 := eq_true c32
            have c32b1 : decide (x6_2.size + 13 ≤ 9223372036854775807) = true := decide_eq_true c32
            try have c32b2 : (9223372036854775807 < x6_2.size + 13) = False := eq_false (Nat.not_lt.2 c32)
            by_cases c33 : (x6_2 ++ (⟨#[63, 61, 32, 61, 63, 117, 116, 102, 45, 56, 63, 113, 63]⟩ : ByteArray)).size + t514.size ≤ 9223372036854775807
            ·rw [if_pos c33] at H
             have c33b0 := eq_true c33
             have c33b1 : decide ((x6_2 ++ (⟨#[63, 61, 32, 61, 63, 117, 116, 102, 45, 56, 63, 113, 63]⟩ : ByteArray)).size + t514.size ≤ 9223372036854775807) = true := decide_eq_true c33
             try have c33b2 : (9223372036854775807 < (x6_2 ++ (⟨#[63, 61, 32, 61, 63, 117, 116, 102, 45, 56, 63, 113, 63]⟩ : ByteArray)).size + t514.size) = False := eq_false (Nat.not_lt.2 c33)
             try (have c33b3 := c33; simp only [ByteArray.size_append, size_lit, ByteArray.size_extract, List.size_toArray, List.length_cons, List.length_nil, Nat.zero_add, Nat.reduceAdd] at c33b3; have c33b4 := eq_false (Nat.not_lt.2 c33b3))
             have H' := Aside0.mk H
             clear H
             obtain ⟨Ao34, co34, eo34⟩ := Kd.R_slice HO_5.out
             subst eo34
             have p512 : 0 ≤ (x8_2 : Int) := od
             have q512 : x8_2 < (t509.length : Int) := od
             obtain ⟨ad512, e512, hx512_0⟩ := Kd.at_int (Kd.R_reads' HO_5.out).2.2 x8_2 p512 q512
             cases e512
             replace p512 := eq_true p512
             replace q512 := eq_true q512
             go_wp2_with (first | ((with_reducible refine gate_callee (f := 43) rfl ?_); refine goesL_ (some 64) rfl rfl Tryd.func43 (by kernel_rfl) rfl #[.int .i64 (rd t509 x8_2)] rfl am ?_; (with_reducible refine (bulletinref19_written.calls k2 (rd t509 x8_2) t514 _ A30.out).mono ?_); rintro e w35 ⟨rfl, hb⟩; refine ⟨_, rfl, ?_⟩; have n0_ := Aside0.mk (Kd.R_below (by (with_reducible repeat (first | apply Kd.R_alloc | apply Kd.R_drewN | apply Kd.R_drew)); exact HO_5.out) hb); have n1_ := Aside0.mk (below_step bw hb); clear HO_5; clear HB; have HO_5 := n0_; have HB := n1_; clear n0_ n1_; (try clear hb); (try clear hb2); (try clear hk); (try clear hi)))
             go_roundg k2
             case measure => have := HK1.out; have := HK2.out; omega
             case rel => exact ⟨((x6_2 ++ (⟨#[63, 61, 32, 61, 63, 117, 116, 102, 45, 56, 63, 113, 63]⟩ : ByteArray)) ++ t514), (wrap64 (10 + (t514.size : Int))), (wrap64 (x8_2 + 1)), (by first | rfl | (simp; done) | (simp [*]; done) | (simp [nil_ne]; done) | (simp [u8_w, i64w_]; done) | (simp [size_lit]; done) | (simp; unfold wrap64; omega)), (by first | rfl | (simp; done) | (simp [*]; done) | (simp [nil_ne]; done) | (simp [u8_w, i64w_]; done) | (simp [size_lit]; done) | (simp; unfold wrap64; omega)), (by first | rfl | (simp; done) | (simp [*]; done) | (simp [nil_ne]; done) | (simp [u8_w, i64w_]; done) | (simp [size_lit]; done) | (simp; unfold wrap64; omega)), H', ⟨by have := HK1.out; have := HK2.out; omega⟩, ⟨by (with_reducible repeat (first | apply Kd.R_alloc | apply Kd.R_drewN | apply Kd.R_drew)); exact HO_5.out⟩, ⟨bw⟩⟩
            ·rw [if_neg c33] at H
             exact absurd H (by simp)
           ·rw [if_neg c32] at H
            exact absurd H (by simp)
          ·rw [if_neg c31] at H
           have c31b0 : decide (75 < (wrap64 ((wrap64 (x7_2 + (t514.size : Int))) + 2))) = false := decide_eq_false c31
           clear c31
           by_cases c36 : x6_2.size + t514.size ≤ 9223372036854775807
           ·rw [if_pos c36] at H
            have c36b0 := eq_true c36
            have c36b1 : decide (x6_2.size + t514.size ≤ 9223372036854775807) = true := decide_eq_true c36
            try have c36b2 : (9223372036854775807 < x6_2.size + t514.size) = False := eq_false (Nat.not_lt.2 c36)
            have H' := Aside0.mk H
            clear H
            obtain ⟨Ao37, co37, eo37⟩ := Kd.R_slice HO_5.out
            subst eo37
            have p512 : 0 ≤ (x8_2 : Int) := od
            have q512 : x8_2 < (t509.length : Int) := od
            obtain ⟨ad512, e512, hx512_0⟩ := Kd.at_int (Kd.R_reads' HO_5.out).2.2 x8_2 p512 q512
            cases e512
            replace p512 := eq_true p512
            replace q512 := eq_true q512
            go_wp2_with (first | ((with_reducible refine gate_callee (f := 43) rfl ?_); refine goesL_ (some 64) rfl rfl Tryd.func43 (by kernel_rfl) rfl #[.int .i64 (rd t509 x8_2)] rfl am ?_; (with_reducible refine (bulletinref19_written.calls k2 (rd t509 x8_2) t514 _ A30.out).mono ?_); rintro e w38 ⟨rfl, hb⟩; refine ⟨_, rfl, ?_⟩; have n0_ := Aside0.mk (Kd.R_below (by (with_reducible repeat (first | apply Kd.R_alloc | apply Kd.R_drewN | apply Kd.R_drew)); exact HO_5.out) hb); have n1_ := Aside0.mk (below_step bw hb); clear HO_5; clear HB; have HO_5 := n0_; have HB := n1_; clear n0_ n1_; (try clear hb); (try clear hb2); (try clear hk); (try clear hi)))
            go_roundg k2
            case measure => have := HK1.out; have := HK2.out; omega
            case rel => exact ⟨(x6_2 ++ t514), (wrap64 (x7_2 + (t514.size : Int))), (wrap64 (x8_2 + 1)), (by first | rfl | (simp; done) | (simp [*]; done) | (simp [nil_ne]; done) | (simp [u8_w, i64w_]; done) | (simp [size_lit]; done) | (simp; unfold wrap64; omega)), (by first | rfl | (simp; done) | (simp [*]; done) | (simp [nil_ne]; done) | (simp [u8_w, i64w_]; done) | (simp [size_lit]; done) | (simp; unfold wrap64; omega)), (by first | rfl | (simp; done) | (simp [*]; done) | (simp [nil_ne]; done) | (simp [u8_w, i64w_]; done) | (simp [size_lit]; done) | (simp; unfold wrap64; omega)), H', ⟨by have := HK1.out; have := HK2.out; omega⟩, ⟨by (with_reducible repeat (first | apply Kd.R_alloc | apply Kd.R_drewN | apply Kd.R_drew)); exact HO_5.out⟩, ⟨bw⟩⟩
           ·rw [if_neg c36] at H
            exact absurd H (by simp)
        ·rw [if_neg c19] at H
         exact absurd H (by simp)
       ·rw [if_neg c18] at H
        have c18b0 : decide (x8_2 < (t509.length : Int)) = false := decide_eq_false c18
        clear c18
        by_cases c39 : x6_2.size + 2 ≤ 9223372036854775807
        ·rw [if_pos c39] at H
         have c39b0 := eq_true c39
         have c39b1 : decide (x6_2.size + 2 ≤ 9223372036854775807) = true := decide_eq_true c39
         try have c39b2 : (9223372036854775807 < x6_2.size + 2) = False := eq_false (Nat.not_lt.2 c39)
         obtain rfl := Option.some.inj H
         obtain ⟨Ao40, co40, eo40⟩ := Kd.R_slice HO_5.out
         subst eo40
         go_wp2
         go_ret
         exact ⟨by first | rfl | (simp [errW_none, errW_some] <;> rfl) | (simp [*, errW_none, errW_some] <;> rfl), bw⟩
        ·rw [if_neg c39] at H
         exact absurd H (by simp)

end Go.Proofs.YtihabmcaplnbcaaDoor.Fn
namespace Go.Proofs.YtihabmcaplnbcaaDoor.Fn
open Go.RowKit Go.Proofs.YtihabmcaplnbcaaDoorW.PrintWords Go.Proofs.YtihabmcaplnbcaaDoorW.PrintLast Go.Proofs.YtihabmcaplnbcaaDoorW.PrintMore
attribute [local go_sem] max2_int min2_int max_two min_two max_three min_three max_four min_four
set_option linter.unusedVariables false
set_option linter.unusedSimpArgs false

/-! ### bulletinlaw19_EwWrites: function 4 -/
def bulletinlaw19_EwWrites.f (k : Nat) (a0 : ByteArray) : Option (Bool) := if (a0.size : Int) > 600 then ((bulletinlaw19_works.f).bind fun t515 => (some t515)) else ((ew_Encode.f a0).bind fun t516 => ((bulletinref19_Encode.f k a0).bind fun t517 => (if t516.toList = t517.toList then ((bulletinlaw19_works.f).bind fun t518 => (some t518)) else (some false))))
set_option maxHeartbeats 8000000 in
set_option maxRecDepth 100000 in
theorem bulletinlaw19_EwWrites.calls (k : Nat) (a0 : ByteArray) (r : Bool) (w : World) (hG : Glob w) (h : bulletinlaw19_EwWrites.f k a0 = some r) :
  Calls Tryd.prog 4 #[.string a0] w fun e w' => e = .returned (.bool r) ∧ Below w.heap.size w w' := by
 have HB := Aside0.mk (Below.refl w.heap.size w)
 have H : (if (a0.size : Int) > 600 then ((bulletinlaw19_works.f).bind fun t515 => (some t515)) else ((ew_Encode.f a0).bind fun t516 => ((bulletinref19_Encode.f k a0).bind fun t517 => (if t516.toList = t517.toList then ((bulletinlaw19_works.f).bind fun t518 => (some t518)) else (some false))))) = some r := h
 clear h
 by_cases c2 : (a0.size : Int) > 600
 ·rw [if_pos c2] at H
  have c2b0 : decide (600 < (a0.size : Int)) = true := decide_eq_true c2
  have c2b1 : decide (600 < a0.size) = true := decide_eq_true (by omega)
  clear c2
  replace H := Option.bind_eq_some_iff.mp H
  obtain ⟨t515, A30, H⟩ := H
  replace H : (some t515) = some r := H
  have A3 := Aside0.mk A30
  clear A30
  obtain rfl := Option.some.inj H
  go_enter Tryd.func4, Tryd.ntmps4
  go_wp2_with (first | ((with_reducible refine gate_callee (f := 16) rfl ?_); refine goesL_ (some 6) rfl rfl Tryd.func16 (by kernel_rfl) rfl #[] rfl am ?_; (with_reducible refine (bulletinlaw19_works.calls (hG := by first | exact hG | exact Glob.below hG (by first | exact HB.out | (repeat (first | (with_reducible first | exact HB.out | apply below_alloc | apply pw_below_drewN | apply below_drew1) | exact HB.out))) | exact Glob.drawn hG (by repeat (first | exact Drawn0.refl _ | apply Drawn0.step)))  t515 _ A3.out).mono ?_); rintro e w4 ⟨rfl, hb⟩; refine ⟨_, rfl, ?_⟩; have n0_ := Aside0.mk (below_step bw hb); clear HB; have HB := n0_; clear n0_; (try clear hb); (try clear hb2); (try clear hk); (try clear hi)))
  go_ret
  exact ⟨by first | rfl | (simp [errW_none, errW_some] <;> rfl) | (simp [*, errW_none, errW_some] <;> rfl), bw⟩
 ·rw [if_neg c2] at H
  have c2b0 : decide (600 < (a0.size : Int)) = false := decide_eq_false c2
  have c2b1 : decide (600 < a0.size) = false := decide_eq_false (by omega)
  clear c2
  replace H := Option.bind_eq_some_iff.mp H
  obtain ⟨t516, A50, H⟩ := H
  replace H : ((bulletinref19_Encode.f k a0).bind fun t517 => (if t516.toList = t517.toList then ((bulletinlaw19_works.f).bind fun t518 => (some t518)) else (some false))) = some r := H
  have A5 := Aside0.mk A50
  clear A50
  replace H := Option.bind_eq_some_iff.mp H
  obtain ⟨t517, A60, H⟩ := H
  replace H : (if t516.toList = t517.toList then ((bulletinlaw19_works.f).bind fun t518 => (some t518)) else (some false)) = some r := H
  have A6 := Aside0.mk A60
  clear A60
  by_cases c7 : t516.toList = t517.toList
  ·rw [if_pos c7] at H
   have c7b0 : (t516.toList == t517.toList) = true := beq_iff_eq.mpr c7
   have c7b1 : (t516.toList != t517.toList) = false := bne_eq_false_iff_eq.mpr c7
   clear c7
   replace H := Option.bind_eq_some_iff.mp H
   obtain ⟨t518, A80, H⟩ := H
   replace H : (some t518) = some r := H
   have A8 := Aside0.mk A80
   clear A80
   obtain rfl := Option.some.inj H
   go_enter Tryd.func4, Tryd.ntmps4
   go_wp2_with (first | ((with_reducible refine gate_callee (f := 17) rfl ?_); refine goesL_ (some 8) rfl rfl Tryd.func17 (by kernel_rfl) rfl #[.string a0] rfl am ?_; (with_reducible refine (ew_Encode.calls (hG := by first | exact hG | exact Glob.below hG (by first | exact HB.out | (repeat (first | (with_reducible first | exact HB.out | apply below_alloc | apply pw_below_drewN | apply below_drew1) | exact HB.out))) | exact Glob.drawn hG (by repeat (first | exact Drawn0.refl _ | apply Drawn0.step))) a0 t516 _ A5.out).mono ?_); rintro e w9 ⟨rfl, hb⟩; refine ⟨_, rfl, ?_⟩; have n0_ := Aside0.mk (below_step bw hb); clear HB; have HB := n0_; clear n0_; (try clear hb); (try clear hb2); (try clear hk); (try clear hi)) | ((with_reducible refine gate_callee (f := 18) rfl ?_); refine goesL_ (some 10) rfl rfl Tryd.func18 (by kernel_rfl) rfl #[.string a0] rfl am ?_; (with_reducible refine (bulletinref19_Encode.calls k a0 t517 _ A6.out).mono ?_); rintro e w10 ⟨rfl, hb⟩; refine ⟨_, rfl, ?_⟩; have n0_ := Aside0.mk (below_step bw hb); clear HB; have HB := n0_; clear n0_; (try clear hb); (try clear hb2); (try clear hk); (try clear hi)) | (go_at_call 16; (with_reducible refine (bulletinlaw19_works.calls (hG := by first | exact hG | exact Glob.below hG (by first | exact HB.out | (repeat (first | (with_reducible first | exact HB.out | apply below_alloc | apply pw_below_drewN | apply below_drew1) | exact HB.out))) | exact Glob.drawn hG (by repeat (first | exact Drawn0.refl _ | apply Drawn0.step)))  t518 _ A8.out).mono ?_); rintro e w11 ⟨rfl, hb⟩; have n0_ := Aside0.mk (below_step bw hb); clear HB; have HB := n0_; clear n0_; (try clear hb); (try clear hb2); (try clear hk); (try clear hi)))
   go_ret
   exact ⟨by first | rfl | (simp [errW_none, errW_some] <;> rfl) | (simp [*, errW_none, errW_some] <;> rfl), bw⟩
  ·rw [if_neg c7] at H
   have c7b0 : (t516.toList == t517.toList) = false := beq_eq_false_iff_ne.mpr c7
   have c7b1 : (t516.toList != t517.toList) = true := bne_iff_ne.mpr c7
   obtain rfl := Option.some.inj H
   go_enter Tryd.func4, Tryd.ntmps4
   go_wp2_with (first | ((with_reducible refine gate_callee (f := 17) rfl ?_); refine goesL_ (some 8) rfl rfl Tryd.func17 (by kernel_rfl) rfl #[.string a0] rfl am ?_; (with_reducible refine (ew_Encode.calls (hG := by first | exact hG | exact Glob.below hG (by first | exact HB.out | (repeat (first | (with_reducible first | exact HB.out | apply below_alloc | apply pw_below_drewN | apply below_drew1) | exact HB.out))) | exact Glob.drawn hG (by repeat (first | exact Drawn0.refl _ | apply Drawn0.step))) a0 t516 _ A5.out).mono ?_); rintro e w12 ⟨rfl, hb⟩; refine ⟨_, rfl, ?_⟩; have n0_ := Aside0.mk (below_step bw hb); clear HB; have HB := n0_; clear n0_; (try clear hb); (try clear hb2); (try clear hk); (try clear hi)) | ((with_reducible refine gate_callee (f := 18) rfl ?_); refine goesL_ (some 10) rfl rfl Tryd.func18 (by kernel_rfl) rfl #[.string a0] rfl am ?_; (with_reducible refine (bulletinref19_Encode.calls k a0 t517 _ A6.out).mono ?_); rintro e w13 ⟨rfl, hb⟩; refine ⟨_, rfl, ?_⟩; have n0_ := Aside0.mk (below_step bw hb); clear HB; have HB := n0_; clear n0_; (try clear hb); (try clear hb2); (try clear hk); (try clear hi)))
   go_ret
   exact ⟨by first | rfl | (simp [errW_none, errW_some] <;> rfl) | (simp [*, errW_none, errW_some] <;> rfl), bw⟩


end Go.Proofs.YtihabmcaplnbcaaDoor.Fn
set_option linter.unusedVariables false
set_option linter.unusedSimpArgs false
namespace Go.Proofs.YtihabmcaplnbcaaDoor.Pl
open Go.RowKit Go.Proofs.YtihabmcaplnbcaaDoorW.PrintWords Go.Proofs.YtihabmcaplnbcaaDoor.Fn

/-! Layer 19: what the laws call. -/
theorem cont_snoc {c : UInt8} {r : Bytes} (h1 : (c :: r).take 2 ≠ [61, 63]) (h2 : Lib.contains r [61, 63] = false) : Lib.contains (c :: r) [61, 63] = false := by
  have hp := Lib.index_ge r [61, 63]
  unfold Lib.contains at h2 ⊢
  rw [decide_eq_false_iff_not] at h2 ⊢
  rw [Lib.index]
  have h3 : ¬ List.isPrefixOf [61, 63] (c :: r) = true := by
    rw [List.isPrefixOf_iff_prefix]
    rintro ⟨z, hz⟩
    exact h1 (by rw [← hz]; rfl)
  rw [if_neg h3]
  split
  · omega
  · next h4 =>
    have : Lib.index r [61, 63] ≠ -1 := fun e => h4 (by rw [e]; rfl)
    omega
theorem works19 : bulletinlaw19_works.f = some true := by decide +kernel
theorem encode_is (s : ByteArray) (hs : s.size ≤ 1000000000) : ew_Encode.f s = some (str (encL s)) := by
  unfold ew_Encode.f
  rw [if_pos hs]
end Go.Proofs.YtihabmcaplnbcaaDoor.Pl
set_option linter.unusedVariables false
set_option linter.unusedSimpArgs false
namespace Go.Proofs.YtihabmcaplnbcaaDoor.Pl
open Go.RowKit Go.Proofs.YtihabmcaplnbcaaDoorW.PrintWords Go.Proofs.YtihabmcaplnbcaaDoor.Fn

/-! The document's signs (out of XPGlyph, XPClean: beside POrderP). -/
def oneZ (s : ByteArray) (i : Nat) : Int × Int := if sign s i = 65533 ∧ width s i = 1 then (-1, 1) else ((sign s i : Int), (width s i : Int))
theorem bt_get (s : ByteArray) (i : Nat) : bt s (i : Int) = ((s.get! i).toNat : Int) := by
  by_cases h : i < s.size
  · rw [bt_nat s i h]
    simp [ByteArray.get!, getElem!_pos, h]
    rfl
  · have h1 : bt s (i : Int) = 0 := by
      unfold bt
      rw [dif_neg (by simpa using h)]
    have h2 : s.get! i = 0 := by
      have h3 : ¬ i < s.data.size := h
      show s.data[i]! = 0
      rw [getElem!_neg s.data i h3]
      rfl
    rw [h1, h2]
    rfl
def tl (s : ByteArray) (j : Nat) : Int := if j < s.size ∧ 128 ≤ (s.get! j).toNat ∧ (s.get! j).toNat < 192 then ((s.get! j).toNat : Int) - 128 else -1
theorem tail_is (s : ByteArray) (j : Nat) : bulletinref06_tail.f s (j : Int) = some (tl s j) := by
  unfold bulletinref06_tail.f tl
  have hb := get_lt s j
  rw [bt_get]
  by_cases h : j < s.size
  · rw [if_neg (by omega), if_pos (by omega), if_pos (by omega)]
    by_cases a : 128 ≤ (s.get! j).toNat
    · rw [if_neg (by omega)]
      by_cases b : (s.get! j).toNat < 192
      · rw [if_neg (by omega), if_pos ⟨h, a, b⟩, wrap_id (x := ((s.get! j).toNat : Int)) (by omega) (by omega), wrap_id (by omega) (by omega)]
      · rw [if_pos (by omega), if_neg (by omega)]
    · rw [if_pos (by omega), if_neg (by omega)]
  · rw [if_pos (by omega), if_neg (by omega)]
theorem tl_range (s : ByteArray) (j : Nat) : -1 ≤ tl s j ∧ tl s j ≤ 63 := by
  unfold tl
  split <;> omega
theorem one_step (k : Nat) (s : ByteArray) (i : Nat) (hi : i ≤ 1000000000) (z n : Int) (q p : Nat) (hp : p = q + 1) (hq : (q : Int) < z) (hq2 : q ≤ 10) (hn : 0 ≤ n) (hn2 : n ≤ 10000000) :
    bulletinref06_One.l0 (k + 1) s (i : Int) z n (q : Int) = if tl s (i + q) < 0 then some (-1, 1) else bulletinref06_One.l0 k s (i : Int) z (64 * n + tl s (i + q)) (p : Int) := by
  subst hp
  simp only [bulletinref06_One.l0]
  have ht := tl_range s (i + q)
  have e : wrap64 ((i : Int) + (q : Int)) = ((i + q : Nat) : Int) := by rw [wrap_id (by omega) (by omega)]; omega
  rw [if_pos hq, e, tail_is]
  simp only [Option.bind_some]
  rw [wrap_id (x := 64 * n) (by omega) (by omega), wrap_id (x := 64 * n + _) (by omega) (by omega), wrap_succ q (by omega)]
def leastZ (z : Int) : Int := if z = 2 then 128 else if z = 3 then 2048 else 65536
theorem one_end (k : Nat) (s : ByteArray) (i : Nat) (z n q : Int) (hz : z = 2 ∨ z = 3 ∨ z = 4) (hq : ¬ q < z) :
    bulletinref06_One.l0 (k + 1) s (i : Int) z n q = if n < leastZ z ∨ (55296 ≤ n ∧ n ≤ 57343) ∨ 1114111 < n then some (-1, 1) else some (n, z) := by
  simp only [bulletinref06_One.l0]
  rw [if_neg hq]
  have e : ∀ z : Int, (z = 2 ∨ z = 3 ∨ z = 4) → rd [0, 0, 128, 2048, 65536] z = leastZ z := by
    rintro z (rfl | rfl | rfl) <;> rfl
  simp only [Option.bind_some]
  rw [if_neg (by omega), if_pos (by omega), if_pos (by simp; omega), e z hz]
  by_cases a : n < leastZ z
  · rw [if_pos a, if_pos (Or.inl a)]
  · rw [if_neg a]
    by_cases b : n ≥ 55296
    · rw [if_pos b]
      by_cases c : n ≤ 57343
      · rw [if_pos c, if_pos (by omega)]
      · rw [if_neg c]
        by_cases d : n > 1114111
        · rw [if_pos d, if_pos (by omega)]
        · rw [if_neg d, if_neg (by omega)]
    · rw [if_neg b]
      by_cases d : n > 1114111
      · rw [if_pos d, if_pos (by omega)]
      · rw [if_neg d, if_neg (by omega)]
theorem one_zero (k : Nat) (s : ByteArray) (i : Nat) (n q : Int) (hq : ¬ q < 0) :
    bulletinref06_One.l0 (k + 1) s (i : Int) 0 n q = some (-1, 1) := by
  simp only [bulletinref06_One.l0]
  rw [if_neg hq]
  simp
theorem one_j (k : Nat) (s : ByteArray) (i : Nat) (c : Int) (h0 : 128 ≤ c) (h1 : c < 256) :
    bulletinref06_One.j0 (k + 6) s (i : Int) c 0 0 (decide (c < 224) && decide (192 ≤ c)) = bulletinref06_One.l0 k s (i : Int) (if c < 192 then 0 else if c < 224 then 2 else if c < 240 then 3 else if c < 248 then 4 else 0) (if c < 192 then 0 else if c < 224 then c - 192 else if c < 240 then c - 224 else if c < 248 then c - 240 else 0) 1 := by
  have w1 : wrap64 (c - 192) = c - 192 := wrap_id (by omega) (by omega)
  have w2 : wrap64 (c - 224) = c - 224 := wrap_id (by omega) (by omega)
  have w3 : wrap64 (c - 240) = c - 240 := wrap_id (by omega) (by omega)
  simp only [bulletinref06_One.j0, bulletinref06_One.j1, bulletinref06_One.j2, bulletinref06_One.j3, bulletinref06_One.j4, bulletinref06_One.j5, w1, w2, w3]
  by_cases a : c < 192
  · have a1 : ¬ 192 ≤ c := by omega
    have a2 : ¬ c ≥ 224 := by omega
    have a3 : ¬ c ≥ 240 := by omega
    simp [a, a1, a2, a3]
  · have a1 : 192 ≤ c := by omega
    by_cases b : c < 224
    · have a2 : ¬ c ≥ 224 := by omega
      have a3 : ¬ c ≥ 240 := by omega
      simp [a, a1, b, a2, a3]
    · have a2 : c ≥ 224 := by omega
      by_cases d : c < 240
      · have a3 : ¬ c ≥ 240 := by omega
        simp [a, a1, b, a2, d, a3]
      · have a3 : c ≥ 240 := by omega
        by_cases f : c < 248
        · simp [a, a1, b, a2, d, a3, f]
        · simp [a, a1, b, a2, d, a3, f]

def oneP (d : Nat × Nat) : Int × Int := if d.1 = 65533 ∧ d.2 = 1 then (-1, 1) else ((d.1 : Int), (d.2 : Int))
theorem oneZ_P (s : ByteArray) (i : Nat) : oneZ s i = oneP (Utf8.decode s i) := rfl
theorem oneP_bad : oneP (65533, 1) = (-1, 1) := by simp [oneP]
theorem oneP_wide (c z : Nat) (h : z ≠ 1) : oneP (c, z) = ((c : Int), (z : Int)) := by simp [oneP, h]
theorem oneP_one (c : Nat) (h : c < 128) : oneP (c, 1) = ((c : Int), 1) := by
  unfold oneP
  rw [if_neg (by simp; omega)]
  rfl
theorem one_is (s : ByteArray) (i : Nat) (hi : i < s.size) (hs : s.size ≤ 1000000000) (k : Nat) (hk : 20 ≤ k) : bulletinref06_One.f k s (i : Int) = some (oneZ s i) := by
  obtain ⟨m, rfl⟩ : ∃ m, k = (m + 5) + 6 := ⟨k - 11, by omega⟩
  rw [oneZ_P, Lib.decode_at]
  have g0 := get_lt s i
  have g1 := get_lt s (i + 1)
  have g2 := get_lt s (i + 2)
  have g3 := get_lt s (i + 3)
  unfold bulletinref06_One.f
  rw [if_pos (by omega), if_pos (by omega), bt_get, wrap_id (x := ((s.get! i).toNat : Int)) (by omega) (by omega)]
  have hj := one_j (m + 5) s i ((s.get! i).toNat : Int)
  have t1 : tl s (i + 1) = if i + 1 < s.size ∧ 128 ≤ (s.get! (i + 1)).toNat ∧ (s.get! (i + 1)).toNat < 192 then ((s.get! (i + 1)).toNat : Int) - 128 else -1 := rfl
  have t2 : tl s (i + 2) = if i + 2 < s.size ∧ 128 ≤ (s.get! (i + 2)).toNat ∧ (s.get! (i + 2)).toNat < 192 then ((s.get! (i + 2)).toNat : Int) - 128 else -1 := rfl
  have t3 : tl s (i + 3) = if i + 3 < s.size ∧ 128 ≤ (s.get! (i + 3)).toNat ∧ (s.get! (i + 3)).toNat < 192 then ((s.get! (i + 3)).toNat : Int) - 128 else -1 := rfl
  generalize (s.get! i).toNat = b0 at *
  generalize (s.get! (i + 1)).toNat = b1 at *
  generalize (s.get! (i + 2)).toNat = b2 at *
  generalize (s.get! (i + 3)).toNat = b3 at *
  by_cases a : b0 < 128
  · rw [if_pos (by omega), show Lib.decodeN (s.size - i) b0 b1 b2 b3 = (b0, 1) by unfold Lib.decodeN; rw [if_pos a], oneP_one _ a]
  rw [if_neg (by omega)]
  have hsel : (if (b0 : Int) ≥ 192 then bulletinref06_One.j0 (m + 5 + 6) s (i : Int) (b0 : Int) 0 0 (decide ((b0 : Int) < 224)) else bulletinref06_One.j0 (m + 5 + 6) s (i : Int) (b0 : Int) 0 0 false) = bulletinref06_One.j0 (m + 5 + 6) s (i : Int) (b0 : Int) 0 0 (decide ((b0 : Int) < 224) && decide (192 ≤ (b0 : Int))) := by
    by_cases b : (b0 : Int) ≥ 192
    · rw [if_pos b]; simp [show (192 : Int) ≤ b0 from b]
    · rw [if_neg b]; simp [show ¬ (192 : Int) ≤ b0 from b]
  rw [hsel, hj (by omega) (by omega)]
  have one1 : (1 : Int) = ((1 : Nat) : Int) := rfl
  have hr1 := tl_range s (i + 1)
  have hr2 := tl_range s (i + 2)
  have hr3 := tl_range s (i + 3)
  by_cases b : b0 < 192
  · have p192 : (b0 : Int) < 192 := by omega
    rw [if_pos p192, if_pos p192, one_zero _ _ _ _ _ (by decide)]
    rw [show Lib.decodeN (s.size - i) b0 b1 b2 b3 = (65533, 1) by unfold Lib.decodeN; rw [if_neg a, if_neg (by omega), if_neg (by omega), if_neg (by omega)], oneP_bad]
  have n192 : ¬ (b0 : Int) < 192 := by omega
  rw [if_neg n192, if_neg n192]
  by_cases c : b0 < 224
  · have p224 : (b0 : Int) < 224 := by omega
    rw [if_pos p224, if_pos p224, one1, one_step _ _ _ (by omega) _ _ 1 2 rfl (by decide) (by decide) (by omega) (by omega)]
    by_cases d : tl s (i + 1) < 0
    · rw [if_pos d, show Lib.decodeN (s.size - i) b0 b1 b2 b3 = (65533, 1) by unfold Lib.decodeN; rw [if_neg a, if_neg (by split at t1 <;> omega), if_neg (by omega), if_neg (by omega)], oneP_bad]
    · rw [if_neg d, one_end _ _ _ _ _ _ (by decide) (by decide)]
      have hd : (1 < s.size - i ∧ b1 / 64 = 2) ∧ tl s (i + 1) = b1 - 128 ∧ 128 ≤ b1 := by split at t1 <;> omega
      have hD : Lib.decodeN (s.size - i) b0 b1 b2 b3 = if b0 % 32 * 64 + b1 % 64 ≥ 128 then (b0 % 32 * 64 + b1 % 64, 2) else (65533, 1) := by unfold Lib.decodeN; rw [if_neg a, if_pos ⟨by omega, hd.1⟩]
      rw [hD, show leastZ 2 = 128 from rfl]
      by_cases e : b0 % 32 * 64 + b1 % 64 ≥ 128
      · rw [if_pos e, if_neg (by omega), oneP_wide _ _ (by decide)]
        congr 2
        omega
      · rw [if_neg e, if_pos (by omega), oneP_bad]
  have n224 : ¬ (b0 : Int) < 224 := by omega
  rw [if_neg n224, if_neg n224]
  by_cases c2 : b0 < 240
  · have p240 : (b0 : Int) < 240 := by omega
    rw [if_pos p240, if_pos p240, one1, one_step _ _ _ (by omega) _ _ 1 2 rfl (by decide) (by decide) (by omega) (by omega)]
    by_cases d : tl s (i + 1) < 0
    · rw [if_pos d, show Lib.decodeN (s.size - i) b0 b1 b2 b3 = (65533, 1) by unfold Lib.decodeN; rw [if_neg a, if_neg (by omega), if_neg (by split at t1 <;> omega), if_neg (by omega)], oneP_bad]
    rw [if_neg d, one_step _ _ _ (by omega) _ _ 2 3 rfl (by decide) (by decide) (by omega) (by omega)]
    by_cases d2 : tl s (i + 2) < 0
    · rw [if_pos d2, show Lib.decodeN (s.size - i) b0 b1 b2 b3 = (65533, 1) by unfold Lib.decodeN; rw [if_neg a, if_neg (by omega), if_neg (by split at t2 <;> omega), if_neg (by omega)], oneP_bad]
    rw [if_neg d2, one_end _ _ _ _ _ _ (by decide) (by decide)]
    have hd : (1 < s.size - i ∧ b1 / 64 = 2) ∧ tl s (i + 1) = b1 - 128 ∧ 128 ≤ b1 := by split at t1 <;> omega
    have hd2 : (2 < s.size - i ∧ b2 / 64 = 2) ∧ tl s (i + 2) = b2 - 128 ∧ 128 ≤ b2 := by split at t2 <;> omega
    have hD : Lib.decodeN (s.size - i) b0 b1 b2 b3 = if b0 % 16 * 4096 + b1 % 64 * 64 + b2 % 64 ≥ 2048 ∧ (b0 % 16 * 4096 + b1 % 64 * 64 + b2 % 64 < 55296 ∨ (57344 ≤ b0 % 16 * 4096 + b1 % 64 * 64 + b2 % 64 ∧ b0 % 16 * 4096 + b1 % 64 * 64 + b2 % 64 ≤ 1114111)) then (b0 % 16 * 4096 + b1 % 64 * 64 + b2 % 64, 3) else (65533, 1) := by unfold Lib.decodeN; rw [if_neg a, if_neg (by omega), if_pos ⟨by omega, hd.1, hd2.1⟩]
    rw [hD, show leastZ 3 = 2048 from rfl]
    by_cases e : b0 % 16 * 4096 + b1 % 64 * 64 + b2 % 64 ≥ 2048 ∧ (b0 % 16 * 4096 + b1 % 64 * 64 + b2 % 64 < 55296 ∨ (57344 ≤ b0 % 16 * 4096 + b1 % 64 * 64 + b2 % 64 ∧ b0 % 16 * 4096 + b1 % 64 * 64 + b2 % 64 ≤ 1114111))
    · rw [if_pos e, if_neg (by omega), oneP_wide _ _ (by decide)]
      congr 2
      omega
    · rw [if_neg e, if_pos (by omega), oneP_bad]
  have n240 : ¬ (b0 : Int) < 240 := by omega
  rw [if_neg n240, if_neg n240]
  by_cases c3 : b0 < 248
  · have p248 : (b0 : Int) < 248 := by omega
    rw [if_pos p248, if_pos p248, one1, one_step _ _ _ (by omega) _ _ 1 2 rfl (by decide) (by decide) (by omega) (by omega)]
    by_cases d : tl s (i + 1) < 0
    · rw [if_pos d, show Lib.decodeN (s.size - i) b0 b1 b2 b3 = (65533, 1) by unfold Lib.decodeN; rw [if_neg a, if_neg (by omega), if_neg (by omega), if_neg (by split at t1 <;> omega)], oneP_bad]
    rw [if_neg d, one_step _ _ _ (by omega) _ _ 2 3 rfl (by decide) (by decide) (by omega) (by omega)]
    by_cases d2 : tl s (i + 2) < 0
    · rw [if_pos d2, show Lib.decodeN (s.size - i) b0 b1 b2 b3 = (65533, 1) by unfold Lib.decodeN; rw [if_neg a, if_neg (by omega), if_neg (by omega), if_neg (by split at t2 <;> omega)], oneP_bad]
    rw [if_neg d2, one_step _ _ _ (by omega) _ _ 3 4 rfl (by decide) (by decide) (by omega) (by omega)]
    by_cases d3 : tl s (i + 3) < 0
    · rw [if_pos d3, show Lib.decodeN (s.size - i) b0 b1 b2 b3 = (65533, 1) by unfold Lib.decodeN; rw [if_neg a, if_neg (by omega), if_neg (by omega), if_neg (by split at t3 <;> omega)], oneP_bad]
    rw [if_neg d3, one_end _ _ _ _ _ _ (by decide) (by decide)]
    have hd : (1 < s.size - i ∧ b1 / 64 = 2) ∧ tl s (i + 1) = b1 - 128 ∧ 128 ≤ b1 := by split at t1 <;> omega
    have hd2 : (2 < s.size - i ∧ b2 / 64 = 2) ∧ tl s (i + 2) = b2 - 128 ∧ 128 ≤ b2 := by split at t2 <;> omega
    have hd3 : (3 < s.size - i ∧ b3 / 64 = 2) ∧ tl s (i + 3) = b3 - 128 ∧ 128 ≤ b3 := by split at t3 <;> omega
    have hD : Lib.decodeN (s.size - i) b0 b1 b2 b3 = if b0 % 8 * 262144 + b1 % 64 * 4096 + b2 % 64 * 64 + b3 % 64 ≥ 65536 ∧ (b0 % 8 * 262144 + b1 % 64 * 4096 + b2 % 64 * 64 + b3 % 64 < 55296 ∨ (57344 ≤ b0 % 8 * 262144 + b1 % 64 * 4096 + b2 % 64 * 64 + b3 % 64 ∧ b0 % 8 * 262144 + b1 % 64 * 4096 + b2 % 64 * 64 + b3 % 64 ≤ 1114111)) then (b0 % 8 * 262144 + b1 % 64 * 4096 + b2 % 64 * 64 + b3 % 64, 4) else (65533, 1) := by unfold Lib.decodeN; rw [if_neg a, if_neg (by omega), if_neg (by omega), if_pos ⟨by omega, hd.1, hd2.1, hd3.1⟩]
    rw [hD, show leastZ 4 = 65536 from rfl]
    by_cases e : b0 % 8 * 262144 + b1 % 64 * 4096 + b2 % 64 * 64 + b3 % 64 ≥ 65536 ∧ (b0 % 8 * 262144 + b1 % 64 * 4096 + b2 % 64 * 64 + b3 % 64 < 55296 ∨ (57344 ≤ b0 % 8 * 262144 + b1 % 64 * 4096 + b2 % 64 * 64 + b3 % 64 ∧ b0 % 8 * 262144 + b1 % 64 * 4096 + b2 % 64 * 64 + b3 % 64 ≤ 1114111))
    · rw [if_pos e, if_neg (by omega), oneP_wide _ _ (by decide)]
      congr 2
      omega
    · rw [if_neg e, if_pos (by omega), oneP_bad]
  · have n248 : ¬ (b0 : Int) < 248 := by omega
    rw [if_neg n248, if_neg n248, one_zero _ _ _ _ _ (by decide)]
    rw [show Lib.decodeN (s.size - i) b0 b1 b2 b3 = (65533, 1) by unfold Lib.decodeN; rw [if_neg a, if_neg (by omega), if_neg (by omega), if_neg (by omega)], oneP_bad]
theorem oneZ_width (s : ByteArray) (i : Nat) : (oneZ s i).2 = (width s i : Int) := by
  unfold oneZ
  split
  · rename_i h
    rw [h.2]
    rfl
  · rfl
theorem drop_cons' {α : Type} {l : List α} {i : Nat} {c : α} {r : List α} (h : l.drop i = c :: r) : i < l.length ∧ l[i]? = some c ∧ l.drop (i + 1) = r := by
  have hi : i < l.length := by
    rcases Nat.lt_or_ge i l.length with h' | h'
    · exact h'
    · rw [List.drop_of_length_le h'] at h; cases h
  refine ⟨hi, ?_, ?_⟩
  · have := congrArg List.head? h
    rw [List.head?_drop] at this
    exact this
  · rw [← List.drop_drop, h]; rfl
theorem rd_drop {l : List Int} {i : Nat} {c : Int} {r : List Int} (h : l.drop i = c :: r) : rd l (i : Int) = c := by
  obtain ⟨h1, h2, _⟩ := drop_cons' h
  unfold rd
  rw [List.getD_eq_getElem?_getD, Int.toNat_natCast, h2]
  rfl

def signsFrom (s : ByteArray) : Nat → Nat → List Int
  | 0, _ => []
  | n + 1, i => if i < s.size then (oneZ s i).1 :: signsFrom s n (i + width s i) else []
theorem signs_rounds (s : ByteArray) (hs : s.size ≤ 1000000000) : ∀ (n k i : Nat) (acc : List Int), s.size ≤ i + n → n + 20 < k → acc.length ≤ i →
    bulletinref06_Signs.l0 k s acc (i : Int) = some (acc ++ signsFrom s n i) := by
  intro n
  induction n with
  | zero =>
    intro k i acc h hk ha
    obtain ⟨k, rfl⟩ : ∃ m, k = m + 1 := ⟨k - 1, by omega⟩
    simp only [bulletinref06_Signs.l0, signsFrom]
    rw [if_neg (by omega), List.append_nil]
  | succ n ih =>
    intro k i acc h hk ha
    obtain ⟨k, rfl⟩ : ∃ m, k = m + 1 := ⟨k - 1, by omega⟩
    simp only [bulletinref06_Signs.l0, signsFrom]
    by_cases hi : i < s.size
    · have hw := width_pos s i hi
      have hw2 := width_end s i hi
      have hw3 : width s i = (Utf8.decode s i).2 := rfl
      rw [if_pos (by omega), if_pos hi, one_is s i hi hs k (by omega)]
      simp only [Option.bind_some]
      rw [if_pos (by omega), oneZ_width, wrap_id (by omega) (by omega)]
      rw [show (i : Int) + (width s i : Int) = ((i + width s i : Nat) : Int) by omega, ih k _ _ (by omega) (by omega) (by simp; omega)]
      simp
    · rw [if_neg (by omega), if_neg hi, List.append_nil]
theorem signs_is (s : ByteArray) (hs : s.size ≤ 1000000000) (k : Nat) (hk : s.size + 20 < k) : bulletinref06_Signs.f k s = some (signsFrom s s.size 0) := by
  unfold bulletinref06_Signs.f
  have := signs_rounds s hs s.size k 0 [] (by omega) hk (by simp)
  simpa using this

def okZ (n : Int) : Prop := 0 ≤ n ∧ (n < 55296 ∨ (57344 ≤ n ∧ n ≤ 1114111))
theorem nums_enc (l : List Int) : strOfNums l = str (l.map fun x => x.toNat.toUInt8) := rfl
theorem tdiv_pos {a b : Int} (h : 0 ≤ a) (_hb : 0 ≤ b) : a.tdiv b = a / b := Int.tdiv_eq_ediv_of_nonneg h
theorem tmod_pos {a b : Int} (h : 0 ≤ a) (_hb : 0 ≤ b) : a.tmod b = a % b := Int.tmod_eq_emod_of_nonneg h
theorem write_is (n : Int) (h : okZ n) : bulletinref06_Write.f n = some (str (Lib.encodeRune n)) := by
  obtain ⟨h0, h1⟩ := h
  unfold bulletinref06_Write.f
  have w : ∀ x : Int, 0 ≤ x → x ≤ 9000000 → wrap64 x = x := fun x a b => wrap_id (by omega) (by omega)
  by_cases a : n < 128
  · rw [if_pos a, nums_enc, Lib.encodeRune, Lib.encodeRuneZ_one h0 (by omega), Int.emod_eq_of_lt h0 (by omega)]
  rw [if_neg a]
  have d64 : n.tdiv 64 = n / 64 := tdiv_pos h0 (by decide)
  have d4096 : n.tdiv 4096 = n / 4096 := tdiv_pos h0 (by decide)
  have d262144 : n.tdiv 262144 = n / 262144 := tdiv_pos h0 (by decide)
  have m64 : n.tmod 64 = n % 64 := tmod_pos h0 (by decide)
  have mm : (n / 64).tmod 64 = n / 64 % 64 := tmod_pos (by omega) (by decide)
  have mm2 : (n / 4096).tmod 64 = n / 4096 % 64 := tmod_pos (by omega) (by decide)
  rw [d64, d4096, d262144, m64, w (n / 64) (by omega) (by omega), w (n / 4096) (by omega) (by omega), w (n / 262144) (by omega) (by omega), mm, mm2, w (192 + n / 64) (by omega) (by omega), w (128 + n % 64) (by omega) (by omega), w (224 + n / 4096) (by omega) (by omega), w (128 + n / 64 % 64) (by omega) (by omega), w (240 + n / 262144) (by omega) (by omega), w (128 + n / 4096 % 64) (by omega) (by omega)]
  by_cases b : n < 2048
  · rw [if_pos b, nums_enc, Lib.encodeRune, Lib.encodeRuneZ_two (by omega) (by omega), Int.emod_eq_of_lt (by omega) (by omega), Int.emod_eq_of_lt (by omega) (by omega)]
  rw [if_neg b]
  by_cases c : n < 65536
  · rw [if_pos c, nums_enc, Lib.encodeRune, Lib.encodeRuneZ_three (by omega), Int.emod_eq_of_lt (a := 224 + n / 4096) (by omega) (by omega), Int.emod_eq_of_lt (a := 128 + n / 64 % 64) (by omega) (by omega), Int.emod_eq_of_lt (a := 128 + n % 64) (by omega) (by omega)]
  · rw [if_neg c, nums_enc, Lib.encodeRune, Lib.encodeRuneZ_four (by omega) (by omega), Int.emod_eq_of_lt (a := 240 + n / 262144) (by omega) (by omega), Int.emod_eq_of_lt (a := 128 + n / 4096 % 64) (by omega) (by omega), Int.emod_eq_of_lt (a := 128 + n / 64 % 64) (by omega) (by omega), Int.emod_eq_of_lt (a := 128 + n % 64) (by omega) (by omega)]
theorem signsFrom_valid (s : ByteArray) : ∀ n i, ∀ x ∈ signsFrom s n i, x = -1 ∨ okZ x := by
  intro n
  induction n with
  | zero => intro i x h; simp [signsFrom] at h
  | succ n ih =>
    intro i x h
    unfold signsFrom at h
    split at h
    · rcases List.mem_cons.1 h with rfl | h
      · have := sign_valid s i
        unfold oneZ
        split
        · exact .inl rfl
        · right
          unfold okZ
          simp only []
          omega
      · exact ih _ x h
    · simp at h
theorem signsFrom_length (s : ByteArray) : ∀ n i, (signsFrom s n i).length ≤ n := by
  intro n
  induction n with
  | zero => intro i; simp [signsFrom]
  | succ n ih =>
    intro i
    unfold signsFrom
    split
    · have := ih (i + width s i)
      simp; omega
    · simp
end Go.Proofs.YtihabmcaplnbcaaDoor.Pl
set_option linter.unusedVariables false
set_option linter.unusedSimpArgs false
namespace Go.Proofs.YtihabmcaplnbcaaDoor.Pl
open Go.RowKit Go.Proofs.YtihabmcaplnbcaaDoorW.PrintWords Go.Proofs.YtihabmcaplnbcaaDoor.Fn

/-! Layer 19, the document's Encode. -/
theorem refwritten_l0 (s : ByteArray) (hs : s.size ≤ 4) : ∀ (rest : Bytes) (i k : Nat) (acc : Bytes), (bs s).drop i = rest → rest.length + 1 ≤ k → acc.length ≤ 3 * i →
    bulletinref19_written.l0 k s (str acc) ⟨#[48, 49, 50, 51, 52, 53, 54, 55, 56, 57, 65, 66, 67, 68, 69, 70]⟩ (i : Int) = some (str (acc ++ hexL rest))
  | [], i, k, acc, hd, hk, ha => by
    obtain ⟨k, rfl⟩ : ∃ j, k = j + 1 := ⟨k - 1, by omega⟩
    have := drop_nil hd
    rw [bs_length] at this
    rw [bulletinref19_written.l0, if_neg (by omega)]
    simp [hexL]
  | c :: r, i, k, acc, hd, hk, ha => by
    obtain ⟨k, rfl⟩ : ∃ j, k = j + 1 := ⟨k - 1, by omega⟩
    obtain ⟨h1, _, h3, _⟩ := drop_cons hd
    rw [bs_length] at h1
    have hc := c.toNat_lt
    have e1 : Int.tdiv (c.toNat : Int) 16 % 256 = ((c.toNat / 16 : Nat) : Int) := by rw [tdiv_pos (by omega) (by omega)]; omega
    have e2 : Int.tmod (c.toNat : Int) 16 = ((c.toNat % 16 : Nat) : Int) := by rw [tmod_pos (by omega) (by omega)]; omega
    have e3 : (((c.toNat / 16 : Nat) : Int) + 1) % 256 = ((c.toNat / 16 + 1 : Nat) : Int) := by omega
    have e4 : (((c.toNat % 16 : Nat) : Int) + 1) % 256 = ((c.toNat % 16 + 1 : Nat) : Int) := by omega
    have z16 : ((⟨#[48, 49, 50, 51, 52, 53, 54, 55, 56, 57, 65, 66, 67, 68, 69, 70]⟩ : ByteArray).size : Int) = 16 := rfl
    have x1 : (ByteArray.mk #[48, 49, 50, 51, 52, 53, 54, 55, 56, 57, 65, 66, 67, 68, 69, 70]).extract (c.toNat / 16) (c.toNat / 16 + 1) = str [hexU (c.toNat / 16)] := hex_at ⟨c.toNat / 16, by omega⟩
    have x2 : (ByteArray.mk #[48, 49, 50, 51, 52, 53, 54, 55, 56, 57, 65, 66, 67, 68, 69, 70]).extract (c.toNat % 16) (c.toNat % 16 + 1) = str [hexU (c.toNat % 16)] := hex_at ⟨c.toNat % 16, by omega⟩
    have y1 : str acc ++ (⟨#[61]⟩ : ByteArray) ++ str [hexU (c.toNat / 16)] = str (acc ++ [61, hexU (c.toNat / 16)]) := by
      rw [show (⟨#[61]⟩ : ByteArray) = str [61] from rfl, str_app, str_app, List.append_assoc]
      rfl
    have y2 : str (acc ++ [61, hexU (c.toNat / 16)]) ++ str [hexU (c.toNat % 16)] = str (acc ++ hexC c) := by
      rw [str_app, List.append_assoc]
      rfl
    have z1 : (str acc ++ (⟨#[61]⟩ : ByteArray)).size = acc.length + 1 := by rw [ByteArray.size_append, str_size]; rfl
    rw [bulletinref19_written.l0, if_pos (by omega), if_pos (by rw [str_size]; omega), if_pos (by omega), bt_drop hd, e1, e2, e3, e4, z16, if_pos (by omega), if_pos (by omega), if_pos (by omega), Int.toNat_natCast, Int.toNat_natCast, Int.toNat_natCast, Int.toNat_natCast, x1, x2, if_pos (by rw [z1, str_size]; simp; omega), if_pos (by omega), if_pos (by omega), if_pos (by omega), y1, if_pos (by rw [str_size, str_size]; simp; omega), y2, wrap_succ i (by omega)]
    rw [refwritten_l0 s hs r (i + 1) k (acc ++ hexC c) h3 (by simp at hk; omega) (by rw [List.length_append]; show acc.length + 3 ≤ _; omega), List.append_assoc]
    rfl
theorem refwritten_is (n : Nat) (ok : okR n) (k : Nat) (hk : 10 ≤ k) : bulletinref19_written.f k (n : Int) = some (str (wrL n)) := by
  obtain ⟨k, rfl⟩ : ∃ j, k = j + 1 := ⟨k - 1, by omega⟩
  have hl : (er n).length ≤ 4 := by
    have := Lib.encodeRuneZ_length (n : Int)
    unfold er Lib.encodeRune
    simpa using this.2
  have hp := er_pos n
  obtain ⟨c, r, hc⟩ : ∃ c r, er n = c :: r := by
    cases h : er n with
    | nil => rw [h] at hp; simp at hp
    | cons c r => exact ⟨c, r, rfl⟩
  have hb : bt (str (er n)) 0 = (c.toNat : Int) := by
    have := bt_str (er n) 0 (by omega)
    rw [show ((0 : Nat) : Int) = 0 from rfl] at this
    rw [this]
    simp [hc]
  have hsafe : safeR c.toNat = safeR n := by
    rcases Nat.lt_or_ge n 128 with h | h
    · rw [er_low n h] at hc
      injection hc with hc _
      rw [← hc]
      congr 1
      simp
      omega
    · have h1 := er_high n ok h c (by rw [hc]; exact List.mem_cons_self)
      have e1 : safeR c.toNat = false := Bool.not_eq_true _ ▸ (fun h => by have := safe_lt h; omega : ¬ safeR c.toNat = true)
      have e2 : safeR n = false := Bool.not_eq_true _ ▸ (fun h => by have := safe_lt h; omega : ¬ safeR n = true)
      rw [e1, e2]
  have hJ : ∀ b, b = safeR n → bulletinref19_written.j0 (k + 1) (n : Int) (str (er n)) b = some (str (wrL n)) := by
    rintro b rfl
    rw [bulletinref19_written.j0]
    unfold wrL
    cases hs : safeR n with
    | true =>
      have := safe_lt hs
      rw [if_pos rfl, if_pos rfl, er_low n (by omega)]
    | false =>
      simp only [Bool.false_eq_true, if_false]
      by_cases h32 : n = 32
      · rw [if_pos (by omega), if_pos h32]
        rfl
      · rw [if_neg (by omega), if_neg h32]
        exact refwritten_l0 (str (er n)) (by rw [str_size]; exact hl) (er n) 0 k [] (by rw [bs_str]; rfl) (by omega) (by simp)
  have hwr := write_is n (by unfold okR at ok; unfold okZ; omega)
  rw [show Lib.encodeRune (n : Int) = er n from rfl] at hwr
  unfold bulletinref19_written.f
  rw [hwr, Option.bind_some, if_pos (by rw [str_size]; omega), hb]
  rw [← hsafe] at hJ
  have hc2 := c.toNat_lt
  generalize c.toNat = m at hJ hc2
  have hT : (97 ≤ m ∧ m ≤ 122 ∨ 65 ≤ m ∧ m ≤ 90 ∨ 48 ≤ m ∧ m ≤ 57 ∨ m = 33 ∨ m = 42 ∨ m = 43 ∨ m = 45 ∨ m = 47) → safeR m = true := fun h => by simp [safeR]; exact h
  have hF : ¬ (97 ≤ m ∧ m ≤ 122 ∨ 65 ≤ m ∧ m ≤ 90 ∨ 48 ≤ m ∧ m ≤ 57 ∨ m = 33 ∨ m = 42 ∨ m = 43 ∨ m = 45 ∨ m = 47) → safeR m = false := fun h => by
    rw [← Bool.not_eq_true]
    intro h2
    simp [safeR] at h2
    exact h h2
  have e47 : ((m : Int) == 47) = (m == 47) := by rw [Bool.eq_iff_iff, beq_iff_eq, beq_iff_eq]; omega
  rw [e47]
  by_cases hs : (97 ≤ m ∧ m ≤ 122 ∨ 65 ≤ m ∧ m ≤ 90 ∨ 48 ≤ m ∧ m ≤ 57 ∨ m = 33 ∨ m = 42 ∨ m = 43 ∨ m = 45 ∨ m = 47)
  · have ht := hT hs
    have hJ1 := hJ true ht.symm
    clear hJ hT hF ht
    rcases hs with h | h | h | h
    · rw [if_pos (by omega), if_neg (by omega), if_pos (by omega), if_neg (by omega), if_pos (by omega), if_pos (by omega)]
      exact hJ1
    · rw [if_pos (by omega), if_neg (by omega), if_pos (by omega), if_pos (by omega)]
      exact hJ1
    · rw [if_pos (by omega), if_pos (by omega)]
      exact hJ1
    · rw [if_neg (by omega), if_neg (by omega), if_neg (by omega)]
      rcases h with rfl | rfl | rfl | rfl | rfl
      · rw [if_pos (by omega)]
        exact hJ1
      · rw [if_neg (by omega), if_pos (by omega)]
        exact hJ1
      · rw [if_neg (by omega), if_neg (by omega), if_pos (by omega)]
        exact hJ1
      · rw [if_neg (by omega), if_neg (by omega), if_neg (by omega), if_pos (by omega)]
        exact hJ1
      · rw [if_neg (by omega), if_neg (by omega), if_neg (by omega), if_neg (by omega)]
        exact hJ1
  · have ht := hF hs
    have hJ1 := hJ false ht.symm
    clear hJ hT hF ht
    have h47 : (m == 47) = false := beq_eq_false_iff_ne.2 (by omega)
    rw [h47]
    rcases (show m < 48 ∨ (57 < m ∧ m < 65) ∨ (90 < m ∧ m < 97) ∨ 122 < m by omega) with h | h | h | h
    · rw [if_neg (by omega), if_neg (by omega), if_neg (by omega), if_neg (by omega), if_neg (by omega), if_neg (by omega), if_neg (by omega)]
      exact hJ1
    · rw [if_pos (by omega), if_neg (by omega), if_neg (by omega), if_neg (by omega), if_neg (by omega), if_neg (by omega), if_neg (by omega), if_neg (by omega)]
      exact hJ1
    · rw [if_pos (by omega), if_neg (by omega), if_pos (by omega), if_neg (by omega), if_neg (by omega), if_neg (by omega), if_neg (by omega), if_neg (by omega), if_neg (by omega)]
      exact hJ1
    · rw [if_pos (by omega), if_neg (by omega), if_pos (by omega), if_neg (by omega), if_pos (by omega), if_neg (by omega), if_neg (by omega), if_neg (by omega), if_neg (by omega), if_neg (by omega)]
      exact hJ1
def unZ (z : Int) : Nat := if z < 0 then 65533 else z.toNat
theorem raw_signs (s : ByteArray) : ∀ n i, (signsFrom s n i).map unZ = rawFrom s n i
  | 0, i => rfl
  | n + 1, i => by
    rw [signsFrom, rawFrom]
    split
    · rw [List.map_cons, raw_signs s n]
      congr 1
      unfold oneZ
      show unZ (if sign s i = 65533 ∧ width s i = 1 then ((-1, 1) : Int × Int) else ((sign s i : Int), (width s i : Int))).1 = sign s i
      split
      · next h => rw [h.1]; rfl
      · unfold unZ
        rw [if_neg (by simp)]
        simp
    · rfl
theorem okR_unZ {z : Int} (h : z = -1 ∨ okZ z) : okR (unZ z) := by
  unfold unZ okR
  unfold okZ at h
  split <;> omega
theorem refenc_l1 (L : List Int) (hL : L.length ≤ 100000000) (hv : ∀ z ∈ L, z = -1 ∨ okZ z) : ∀ (rest : List Int) (i k : Nat) (out w : Bytes), L.drop i = rest → rest.length + 11 ≤ k → out.length ≤ 100 * i → w.length ≤ 63 → i ≤ L.length →
    bulletinref19_Encode.l1 k L (str (out ++ (frontL ++ w))) (10 + (w.length : Int)) (i : Int) = some (str (encW (rest.map unZ) out w))
  | [], i, k, out, w, hd, hk, ho, hw, hi => by
    obtain ⟨k, rfl⟩ : ∃ j, k = j + 1 := ⟨k - 1, by omega⟩
    have := List.drop_eq_nil_iff.1 hd
    rw [bulletinref19_Encode.l1, if_neg (by omega), if_pos (by rw [str_size]; simp [frontL]; omega), show (⟨#[63, 61]⟩ : ByteArray) = str shutL from rfl, str_app]
    simp [encW]
  | z :: r, i, k, out, w, hd, hk, ho, hw, hi => by
    obtain ⟨k, rfl⟩ : ∃ j, k = j + 1 := ⟨k - 1, by omega⟩
    have hzm : z ∈ L := List.mem_of_mem_drop (by rw [hd]; exact List.mem_cons_self)
    have hok := okR_unZ (hv z hzm)
    obtain ⟨h1, _, h3⟩ := drop_cons' hd
    have hw12 := wrL_len (unZ z)
    have hwr : (if rd L (i : Int) < 0 then bulletinref19_written.f k 65533 else bulletinref19_written.f k (rd L (i : Int))) = some (str (wrL (unZ z))) := by
      rw [rd_drop hd]
      have := refwritten_is (unZ z) hok k (by simp at hk; omega)
      rw [← this]
      unfold unZ
      by_cases hz : z < 0
      · rw [if_pos hz, if_pos hz]
        rfl
      · rw [if_neg hz, if_neg hz, Int.toNat_of_nonneg (by omega)]
    have hs : ((str (wrL (unZ z))).size : Int) = ((wrL (unZ z)).length : Int) := by rw [str_size]
    have key : ∀ t, t = str (wrL (unZ z)) →
        (if (wrap64 ((wrap64 (10 + (w.length : Int) + (t.size : Int))) + 2)) > 75 then (if (str (out ++ (frontL ++ w))).size + 13 ≤ 9223372036854775807 then (if (str (out ++ (frontL ++ w)) ++ (⟨#[63, 61, 32, 61, 63, 117, 116, 102, 45, 56, 63, 113, 63]⟩ : ByteArray)).size + t.size ≤ 9223372036854775807 then (bulletinref19_Encode.l1 k L ((str (out ++ (frontL ++ w)) ++ (⟨#[63, 61, 32, 61, 63, 117, 116, 102, 45, 56, 63, 113, 63]⟩ : ByteArray)) ++ t) (wrap64 (10 + (t.size : Int))) (wrap64 ((i : Int) + 1))) else (none)) else (none)) else (if (str (out ++ (frontL ++ w))).size + t.size ≤ 9223372036854775807 then (bulletinref19_Encode.l1 k L (str (out ++ (frontL ++ w)) ++ t) (wrap64 (10 + (w.length : Int) + (t.size : Int))) (wrap64 ((i : Int) + 1))) else (none))) = some (str (encW ((z :: r).map unZ) out w)) := by
      rintro t rfl
      have hw1 : wrap64 (10 + (w.length : Int) + ((wrL (unZ z)).length : Int)) = 10 + (w.length : Int) + ((wrL (unZ z)).length : Int) := wrap_small (by omega) (by omega)
      have hw2 : wrap64 (10 + (w.length : Int) + ((wrL (unZ z)).length : Int) + 2) = 10 + (w.length : Int) + ((wrL (unZ z)).length : Int) + 2 := wrap_small (by omega) (by omega)
      have hw3 : wrap64 (10 + ((wrL (unZ z)).length : Int)) = 10 + ((wrL (unZ z)).length : Int) := wrap_small (by omega) (by omega)
      have hw4 : wrap64 ((i : Int) + 1) = ((i + 1 : Nat) : Int) := wrap_succ i (by omega)
      rw [hs, hw1, hw2, hw3, hw4, List.map_cons, encW]
      clear hw1 hw2 hw3 hw4
      have fz : frontL.length = 10 := rfl
      by_cases hb : 63 < w.length + (wrL (unZ z)).length
      · rw [if_pos (by omega), if_pos hb, if_pos (by rw [str_size]; simp only [List.length_append, fz]; omega), show (⟨#[63, 61, 32, 61, 63, 117, 116, 102, 45, 56, 63, 113, 63]⟩ : ByteArray) = str (shutL ++ ([32] ++ frontL)) from rfl, str_app, if_pos (by rw [str_size, str_size]; simp [frontL, shutL]; omega), str_app]
        have := refenc_l1 L hL hv r (i + 1) k (out ++ (frontL ++ (w ++ (shutL ++ [32])))) (wrL (unZ z)) h3 (by simp at hk; omega) (by simp [frontL, shutL]; omega) (by omega) (by omega)
        rw [← this]
        congr 2
        simp
      · rw [if_neg (by omega), if_neg hb, if_pos (by rw [str_size, str_size]; simp only [List.length_append, fz]; omega), str_app]
        have := refenc_l1 L hL hv r (i + 1) k out (w ++ wrL (unZ z)) h3 (by simp at hk; omega) (by omega) (by rw [List.length_append]; omega) (by omega)
        rw [← this]
        congr 1
        · simp
        · rw [List.length_append]
          omega
    rw [bulletinref19_Encode.l1, if_pos (by omega), if_pos (by omega)]
    split at hwr
    · next hz =>
      rw [if_pos hz, hwr, Option.bind_some]
      exact key _ rfl
    · next hz =>
      rw [if_neg hz, hwr, Option.bind_some]
      exact key _ rfl
def okP (l : Bytes) : Bool := plainL l && !Lib.contains l [61, 63]
theorem refenc_l0 (s : ByteArray) (hs : s.size ≤ 1000000) : ∀ (rest : Bytes) (fl : Bool) (i k : Nat), (bs s).drop i = rest → rest.length + s.size + 40 ≤ k →
    bulletinref19_Encode.l0 k s fl (i : Int) = some (if (fl && okP rest) = true then s else str (encW (rawFrom s s.size 0) [] []))
  | [], fl, i, k, hd, hk => by
    obtain ⟨k, rfl⟩ : ∃ j, k = j + 1 := ⟨k - 1, by omega⟩
    have := drop_nil hd
    rw [bs_length] at this
    rw [bulletinref19_Encode.l0, if_neg (by omega)]
    cases fl with
    | true => rfl
    | false =>
      have hl := signsFrom_length s s.size 0
      have h1 := refenc_l1 (signsFrom s s.size 0) (by omega) (signsFrom_valid s s.size 0) (signsFrom s s.size 0) 0 k [] [] rfl (by simp at hk; omega) (by simp) (by simp) (by omega)
      rw [raw_signs] at h1
      rw [if_neg (by decide), signs_is s (by omega) k (by simp at hk; omega), Option.bind_some]
      exact h1
  | c :: r, fl, i, k, hd, hk => by
    obtain ⟨k, rfl⟩ : ∃ j, k = j + 1 := ⟨k - 1, by omega⟩
    obtain ⟨h1, _, h3, _⟩ := drop_cons hd
    rw [bs_length] at h1
    have hlr : r.length + (i + 1) = s.size := by
      have := congrArg List.length h3
      rw [List.length_drop, bs_length] at this
      omega
    have ih := fun fl => refenc_l0 s hs r fl (i + 1) k h3 (by simp at hk; omega)
    have e61 : ((c.toNat : Int) = 61) = (c = 61) := propext (forall_byte (p := fun c => (c.toNat : Int) = 61 ↔ c = 61) (by decide +kernel) c)
    have hpc : plainL (c :: r) = ((decide (32 ≤ c.toNat) && decide (c.toNat ≤ 126)) && plainL r) := rfl
    rw [bulletinref19_Encode.l0, if_pos (by omega), if_pos (by omega), bt_drop hd, wrap_succ i (by omega)]
    by_cases c1 : (c.toNat : Int) < 32
    · have : okP (c :: r) = false := by unfold okP; rw [hpc, decide_eq_false (by omega)]; rfl
      rw [if_pos c1, ih, this]
      cases fl <;> rfl
    · rw [if_neg c1]
      by_cases c2 : (c.toNat : Int) > 126
      · have : okP (c :: r) = false := by unfold okP; rw [hpc, decide_eq_false (p := c.toNat ≤ 126) (by omega), Bool.and_false]; rfl
        rw [if_pos c2, ih, this]
        cases fl <;> rfl
      · rw [if_neg c2]
        have hpc2 : plainL (c :: r) = plainL r := by rw [hpc, decide_eq_true (by omega), decide_eq_true (by omega)]; rfl
        have hsame : (c :: r).take 2 ≠ [61, 63] → okP (c :: r) = okP r := by
          intro hne
          unfold okP
          rw [hpc2]
          congr 2
          cases hr : Lib.contains r [61, 63] with
          | false => exact cont_snoc hne hr
          | true =>
            cases hcr : Lib.contains (c :: r) [61, 63] with
            | true => rfl
            | false => rw [(cont_cons hcr).2] at hr; cases hr
        by_cases c3 : c = 61
        · rw [if_pos (by rw [e61]; exact c3)]
          by_cases c4 : i + 1 < s.size
          · obtain ⟨d, r', rfl⟩ : ∃ d r', r = d :: r' := by
              cases r with
              | nil => simp at hlr; omega
              | cons d r' => exact ⟨d, r', rfl⟩
            have e63 : ((d.toNat : Int) = 63) = (d = 63) := propext (forall_byte (p := fun d => (d.toNat : Int) = 63 ↔ d = 63) (by decide +kernel) d)
            rw [if_pos (by omega), if_pos (by omega), bt_drop h3]
            by_cases c5 : d = 63
            · have : okP (c :: d :: r') = false := by
                unfold okP
                cases hcr : Lib.contains (c :: d :: r') [61, 63] with
                | true => simp
                | false => exact absurd (by rw [c3, c5]; rfl) (cont_cons hcr).1
              rw [if_pos (by rw [e63]; exact c5), ih, this]
              cases fl <;> rfl
            · rw [if_neg (by rw [e63]; exact c5), ih, hsame (by intro e; simp at e; exact c5 e.2)]
          · have hr : r = [] := List.eq_nil_of_length_eq_zero (by omega)
            subst hr
            rw [if_neg (by omega), ih, hsame (by simp)]
        · rw [if_neg (by rw [e61]; exact c3), ih, hsame (by intro e; simp at e; exact c3 e.1)]
theorem refencode_is (s : ByteArray) (hs : s.size ≤ 1000000) (k : Nat) (hk : 2 * s.size + 40 ≤ k) : bulletinref19_Encode.f k s = some (str (encL s)) := by
  unfold bulletinref19_Encode.f
  have := refenc_l0 s hs (bs s) true 0 k rfl (by rw [bs_length]; omega)
  refine this.trans ?_
  congr 1
  unfold encL okP
  rw [plain_plainL]
  by_cases h : plainL (bs s) = true ∧ Lib.contains (bs s) [61, 63] = false
  · rw [if_pos h, h.1, h.2]
    exact (if_pos rfl).trans (str_bs s).symm
  · rw [if_neg h, if_neg]
    intro e
    rw [Bool.true_and, Bool.and_eq_true] at e
    exact h ⟨e.1, by simpa using e.2⟩
end Go.Proofs.YtihabmcaplnbcaaDoor.Pl
set_option linter.unusedVariables false
namespace Go.Proofs.YtihabmcaplnbcaaDoor.Pl
open Go.RowKit Go.Proofs.YtihabmcaplnbcaaDoorW.PrintWords Go.Proofs.YtihabmcaplnbcaaDoor.Fn

theorem EwWrites (s : ByteArray) : ∃ k, bulletinlaw19_EwWrites.f k s = some true := by
  refine ⟨10000, ?_⟩
  unfold bulletinlaw19_EwWrites.f
  rw [works19]
  by_cases h1 : (s.size : Int) > 600
  · rw [if_pos h1]
    rfl
  rw [if_neg h1, encode_is s (by omega), Option.bind_some, refencode_is s (by omega) 10000 (by omega), Option.bind_some, if_pos rfl]
  rfl
end Go.Proofs.YtihabmcaplnbcaaDoor.Pl
