/- A part of the proof of this sentence: DressOnce (36.1, 36.5): a subject with a list's tag has it, as it is read, in words, and put again it is as it was; of a list's name, a subject of at most 500 bytes. -/
import Derived.Test.YtihabmcaplnbcaaDoorCDressOnce1
import Derived.Lib.Split
import Derived.Lib.IndexBytes
import Derived.Shelf.Strings.SlTrimAscii
import Derived.Lib.ConvBytes
import Derived.Laws.Cover4
namespace Go.Proofs.YtihabmcaplnbcaaDoor.Fn
open Go.RowKit Go.Proofs.YtihabmcaplnbcaaDoorW.PrintWords Go.Proofs.YtihabmcaplnbcaaDoorW.PrintLast Go.Proofs.YtihabmcaplnbcaaDoorW.PrintMore
attribute [local go_sem] max2_int min2_int max_two min_two max_three min_three max_four min_four
set_option linter.unusedVariables false
set_option linter.unusedSimpArgs false

/-! ### ew_octets: function 88 -/
def ew_octets.j0 : Nat → ByteArray → ByteArray → Bool → Option (ByteArray × Bool)
 | 0, _, _, _ => none
 | k + 1, x1, x8, x9 => if x9 = true then ((ew_quoted.f k x1).bind fun bt419 => (some (bt419.1, bt419.2))) else (if x8.toList = ([98] : List UInt8) then ((b64_Decode.f k x1).bind fun bt421 => (some (bt421.1, (bt421.2 == 0)))) else (if x8.toList = ([66] : List UInt8) then ((b64_Decode.f k x1).bind fun bt423 => (some (bt423.1, (bt423.2 == 0)))) else (some ((⟨#[]⟩ : ByteArray), false))))
def ew_octets.f (k : Nat) (a0 : ByteArray) (a1 : ByteArray) : Option (ByteArray × Bool) := if a0.toList = ([113] : List UInt8) then (ew_octets.j0 k a1 a0 (a0.toList == ([113] : List UInt8))) else (ew_octets.j0 k a1 a0 (a0.toList == ([81] : List UInt8)))
set_option maxHeartbeats 8000000 in
set_option maxRecDepth 100000 in
theorem ew_octets.calls (k : Nat) (a0 : ByteArray) (a1 : ByteArray) (r1 : ByteArray) (r2 : Bool) (w : World) (h : ew_octets.f k a0 a1 = some (r1, r2)) :
  Calls Tryd.prog 88 #[.string a0, .string a1] w fun e w' => e = .returned (.tuple #[.string r1, .bool r2]) ∧ Below w.heap.size w w' := by
 have HB := Aside0.mk (Below.refl w.heap.size w)
 have H : (if a0.toList = ([113] : List UInt8) then (ew_octets.j0 k a1 a0 (a0.toList == ([113] : List UInt8))) else (ew_octets.j0 k a1 a0 (a0.toList == ([81] : List UInt8)))) = some (r1, r2) := h
 clear h
 have HC3 := Aside0.mk H
 clear H
 go_enter Tryd.func88, Tryd.ntmps88
 go_upto_if 9 with (fail)
 go_cut [9] (fun v9 wc => ∃ (kq : Nat) (x9_2 : Bool), v9 = .bool x9_2 ∧ Aside0 (ew_octets.j0 kq a1 a0 x9_2 = some (r1, r2)) ∧ Aside0 (kq ≤ k) ∧ Aside0 (Below w.heap.size w wc))
 case first =>
  have H := HC3.out
  clear HC3
  by_cases c4 : a0.toList = ([113] : List UInt8)
  ·rw [if_pos c4] at H
   have c4b0 : (a0.toList == ([113] : List UInt8)) = true := beq_iff_eq.mpr c4
   have c4b1 : (a0.toList != ([113] : List UInt8)) = false := bne_eq_false_iff_eq.mpr c4
   clear c4
   (first | rw [c4b0] | (simp only [i64_w, i32_w]; rw [c4b0]) | skip)
   have H' := Aside0.mk H
   clear H
   go_wp2
   go_meet
   case rel => exact ⟨_, ((a0.toList == ([113] : List UInt8))), (by first | rfl | (simp; done) | (simp [*]; done) | (simp [nil_ne]; done) | (simp [u8_w, i64w_]; done) | (simp [size_lit]; done) | (simp; unfold wrap64; omega)), H', ⟨by first | omega | exact Nat.le_refl _⟩, ⟨bw⟩⟩
  ·rw [if_neg c4] at H
   have c4b0 : (a0.toList == ([113] : List UInt8)) = false := beq_eq_false_iff_ne.mpr c4
   have c4b1 : (a0.toList != ([113] : List UInt8)) = true := bne_iff_ne.mpr c4
   (first | rw [c4b0] | (simp only [i64_w, i32_w]; rw [c4b0]) | skip)
   have H' := Aside0.mk H
   clear H
   go_wp2
   go_meet
   case rel => exact ⟨_, ((a0.toList == ([81] : List UInt8))), (by first | rfl | (simp; done) | (simp [*]; done) | (simp [nil_ne]; done) | (simp [u8_w, i64w_]; done) | (simp [size_lit]; done) | (simp; unfold wrap64; omega)), H', ⟨by first | omega | exact Nat.le_refl _⟩, ⟨bw⟩⟩
 case rest =>
  clear HC3
  try clear p2
  try clear c4
  try clear c4b0
  try clear c4b1
  obtain ⟨kq, x9_2, rfl, HA, HJ2, HB⟩ := hcut
  cases kq with
  | zero => exact absurd HA.out (by simp [ew_octets.j0])
  | succ kj2 =>
   have H := HA.out
   clear HA
   simp only [ew_octets.j0] at H
   by_cases c5 : x9_2 = true
   ·subst c5
    have H1 : ((ew_quoted.f kj2 a1).bind fun bt419 => (some (bt419.1, bt419.2))) = some (r1, r2) := by rw [if_pos rfl] at H; exact H
    clear H
    have H := H1
    clear H1
    replace H := Option.bind_eq_some_iff.mp H
    obtain ⟨⟨t419, t420⟩, A60, H⟩ := H
    replace H : (some (t419, t420)) = some (r1, r2) := H
    have A6 := Aside0.mk A60
    clear A60
    simp only [Option.some.injEq, Prod.mk.injEq] at H
    obtain ⟨rfl, rfl⟩ := H
    go_wp2_with (first | ((with_reducible refine gate_callee (f := 124) rfl ?_); refine goesL_ (some 13) rfl rfl Tryd.func124 (by kernel_rfl) rfl #[.string a1] rfl am ?_; (with_reducible refine (ew_quoted.calls kj2 a1 t419 t420 _ A6.out).mono ?_); rintro e w7 ⟨rfl, hb⟩; refine ⟨_, rfl, ?_⟩; have n0_ := Aside0.mk (below_step bw hb); clear HB; have HB := n0_; clear n0_; (try clear hb); (try clear hb2); (try clear hk); (try clear hi)))
    go_ret2
    exact ⟨by first | rfl | (simp [errW_none, errW_some] <;> rfl) | (simp [*, errW_none, errW_some] <;> rfl), bw⟩
   ·replace c5 := Bool.eq_false_iff.mpr c5
    subst c5
    have H1 : (if a0.toList = ([98] : List UInt8) then ((b64_Decode.f kj2 a1).bind fun bt421 => (some (bt421.1, (bt421.2 == 0)))) else (if a0.toList = ([66] : List UInt8) then ((b64_Decode.f kj2 a1).bind fun bt423 => (some (bt423.1, (bt423.2 == 0)))) else (some ((⟨#[]⟩ : ByteArray), false)))) = some (r1, r2) := by rw [if_neg (show ¬ (false = true) by decide)] at H; exact H
    clear H
    have H := H1
    clear H1
    by_cases c8 : a0.toList = ([98] : List UInt8)
    ·rw [if_pos c8] at H
     have c8b0 : (a0.toList == ([98] : List UInt8)) = true := beq_iff_eq.mpr c8
     have c8b1 : (a0.toList != ([98] : List UInt8)) = false := bne_eq_false_iff_eq.mpr c8
     clear c8
     replace H := Option.bind_eq_some_iff.mp H
     obtain ⟨⟨t421, t422⟩, A90, H⟩ := H
     replace H : (some (t421, (t422 == 0))) = some (r1, r2) := H
     have A9 := Aside0.mk A90
     clear A90
     simp only [Option.some.injEq, Prod.mk.injEq] at H
     obtain ⟨rfl, rfl⟩ := H
     go_wp2_with (first | ((with_reducible refine gate_callee (f := 125) rfl ?_); refine goesL_ (some 21) rfl rfl Tryd.func125 (by kernel_rfl) rfl #[.string a1] rfl am ?_; (with_reducible refine (b64_Decode.calls kj2 a1 t421 t422 _ A9.out).mono ?_); rintro e w10 ⟨rfl, hb⟩; refine ⟨_, rfl, ?_⟩; have n0_ := Aside0.mk (below_step bw hb); clear HB; have HB := n0_; clear n0_; (try clear hb); (try clear hb2); (try clear hk); (try clear hi)))
     go_ret2
     exact ⟨by first | rfl | (simp [errW_none, errW_some] <;> rfl) | (simp [*, errW_none, errW_some] <;> rfl), bw⟩
    ·rw [if_neg c8] at H
     have c8b0 : (a0.toList == ([98] : List UInt8)) = false := beq_eq_false_iff_ne.mpr c8
     have c8b1 : (a0.toList != ([98] : List UInt8)) = true := bne_iff_ne.mpr c8
     by_cases c11 : a0.toList = ([66] : List UInt8)
     ·rw [if_pos c11] at H
      have c11b0 : (a0.toList == ([66] : List UInt8)) = true := beq_iff_eq.mpr c11
      have c11b1 : (a0.toList != ([66] : List UInt8)) = false := bne_eq_false_iff_eq.mpr c11
      clear c11
      replace H := Option.bind_eq_some_iff.mp H
      obtain ⟨⟨t423, t424⟩, A120, H⟩ := H
      replace H : (some (t423, (t424 == 0))) = some (r1, r2) := H
      have A12 := Aside0.mk A120
      clear A120
      simp only [Option.some.injEq, Prod.mk.injEq] at H
      obtain ⟨rfl, rfl⟩ := H
      go_wp2_with (first | ((with_reducible refine gate_callee (f := 125) rfl ?_); refine goesL_ (some 21) rfl rfl Tryd.func125 (by kernel_rfl) rfl #[.string a1] rfl am ?_; (with_reducible refine (b64_Decode.calls kj2 a1 t423 t424 _ A12.out).mono ?_); rintro e w13 ⟨rfl, hb⟩; refine ⟨_, rfl, ?_⟩; have n0_ := Aside0.mk (below_step bw hb); clear HB; have HB := n0_; clear n0_; (try clear hb); (try clear hb2); (try clear hk); (try clear hi)))
      go_ret2
      exact ⟨by first | rfl | (simp [errW_none, errW_some] <;> rfl) | (simp [*, errW_none, errW_some] <;> rfl), bw⟩
     ·rw [if_neg c11] at H
      have c11b0 : (a0.toList == ([66] : List UInt8)) = false := beq_eq_false_iff_ne.mpr c11
      have c11b1 : (a0.toList != ([66] : List UInt8)) = true := bne_iff_ne.mpr c11
      simp only [Option.some.injEq, Prod.mk.injEq] at H
      obtain ⟨rfl, rfl⟩ := H
      go_wp2
      go_ret2
      exact ⟨by first | rfl | (simp [errW_none, errW_some] <;> rfl) | (simp [*, errW_none, errW_some] <;> rfl), bw⟩

end Go.Proofs.YtihabmcaplnbcaaDoor.Fn
namespace Go.Proofs.YtihabmcaplnbcaaDoor.Fn
open Go.RowKit Go.Proofs.YtihabmcaplnbcaaDoorW.PrintWords Go.Proofs.YtihabmcaplnbcaaDoorW.PrintLast Go.Proofs.YtihabmcaplnbcaaDoorW.PrintMore
attribute [local go_sem] max2_int min2_int max_two min_two max_three min_three max_four min_four
set_option linter.unusedVariables false
set_option linter.unusedSimpArgs false

/-! ### stringslite_HasPrefix: function 104 -/
def stringslite_HasPrefix.f (a0 : ByteArray) (a1 : ByteArray) : Option (Bool) := if (a0.size : Int) ≥ (a1.size : Int) then (if 0 ≤ (a1.size : Int) then (if (a1.size : Int) ≤ (a0.size : Int) then (some ((a0.extract 0 ((a1.size : Int) : Int).toNat).toList == a1.toList)) else (none)) else (none)) else (some false)
set_option maxHeartbeats 8000000 in
set_option maxRecDepth 100000 in
theorem stringslite_HasPrefix.calls (a0 : ByteArray) (a1 : ByteArray) (r : Bool) (w : World) (h : stringslite_HasPrefix.f a0 a1 = some r) :
  Calls Tryd.prog 104 #[.string a0, .string a1] w fun e w' => e = .returned (.bool r) ∧ Drawn0 w w' := by
 have H : (if (a0.size : Int) ≥ (a1.size : Int) then (if 0 ≤ (a1.size : Int) then (if (a1.size : Int) ≤ (a0.size : Int) then (some ((a0.extract 0 ((a1.size : Int) : Int).toNat).toList == a1.toList)) else (none)) else (none)) else (some false)) = some r := h
 clear h
 by_cases c3 : (a0.size : Int) ≥ (a1.size : Int)
 ·rw [if_pos c3] at H
  have c3b0 : decide ((a1.size : Int) ≤ (a0.size : Int)) = true := decide_eq_true c3
  have c3b1 : decide (a1.size ≤ a0.size) = true := decide_eq_true (Int.ofNat_le.mp c3)
  clear c3
  by_cases c4 : 0 ≤ (a1.size : Int)
  ·rw [if_pos c4] at H
   have c4b0 := eq_true c4
   have c4b1 : decide (0 ≤ (a1.size : Int)) = true := decide_eq_true c4
   clear c4
   by_cases c5 : (a1.size : Int) ≤ (a0.size : Int)
   ·rw [if_pos c5] at H
    have c5b0 := eq_true c5
    have c5b1 : decide ((a1.size : Int) ≤ (a0.size : Int)) = true := decide_eq_true c5
    clear c5
    obtain rfl := Option.some.inj H
    go_enter Tryd.func104, Tryd.ntmps104
    go_wp2
    go_ret
    exact ⟨by first | rfl | (simp; done) | (simp [*]; done) | (simp [nil_ne]; done) | (simp [u8_w, i64w_]; done) | (simp [size_lit]; done) | (simp; unfold wrap64; omega), by repeat (first | exact Drawn0.refl _ | apply Drawn0.step)⟩
   ·rw [if_neg c5] at H
    exact absurd H (by simp)
  ·rw [if_neg c4] at H
   exact absurd H (by simp)
 ·rw [if_neg c3] at H
  have c3b0 : decide ((a1.size : Int) ≤ (a0.size : Int)) = false := decide_eq_false c3
  have c3b1 : decide (a1.size ≤ a0.size) = false := decide_eq_false (fun h => c3 (Int.ofNat_le.mpr h))
  clear c3
  obtain rfl := Option.some.inj H
  go_enter Tryd.func104, Tryd.ntmps104
  go_wp2
  go_ret
  exact ⟨by first | rfl | (simp; done) | (simp [*]; done) | (simp [nil_ne]; done) | (simp [u8_w, i64w_]; done) | (simp [size_lit]; done) | (simp; unfold wrap64; omega), by repeat (first | exact Drawn0.refl _ | apply Drawn0.step)⟩

end Go.Proofs.YtihabmcaplnbcaaDoor.Fn
namespace Go.Proofs.YtihabmcaplnbcaaDoor.Fn
open Go.RowKit Go.Proofs.YtihabmcaplnbcaaDoorW.PrintWords Go.Proofs.YtihabmcaplnbcaaDoorW.PrintLast Go.Proofs.YtihabmcaplnbcaaDoorW.PrintMore
attribute [local go_sem] max2_int min2_int max_two min_two max_three min_three max_four min_four
set_option linter.unusedVariables false
set_option linter.unusedSimpArgs false

/-! ### stringslite_CutPrefix: function 122 -/
def stringslite_CutPrefix.f (a0 : ByteArray) (a1 : ByteArray) : Option (ByteArray × Bool) := (stringslite_HasPrefix.f a0 a1).bind fun t386 => (if t386 = true then (if 0 ≤ (a1.size : Int) then (if (a1.size : Int) ≤ (a0.size : Int) then (some (a0.extract ((a1.size : Int) : Int).toNat a0.size, true)) else (none)) else (none)) else (some (a0, false)))
set_option maxHeartbeats 8000000 in
set_option maxRecDepth 100000 in
theorem stringslite_CutPrefix.calls (a0 : ByteArray) (a1 : ByteArray) (r1 : ByteArray) (r2 : Bool) (w : World) (h : stringslite_CutPrefix.f a0 a1 = some (r1, r2)) :
  Calls Tryd.prog 122 #[.string a0, .string a1] w fun e w' => e = .returned (.tuple #[.string r1, .bool r2]) ∧ Drawn0 w w' := by
 have H : ((stringslite_HasPrefix.f a0 a1).bind fun t386 => (if t386 = true then (if 0 ≤ (a1.size : Int) then (if (a1.size : Int) ≤ (a0.size : Int) then (some (a0.extract ((a1.size : Int) : Int).toNat a0.size, true)) else (none)) else (none)) else (some (a0, false)))) = some (r1, r2) := h
 clear h
 replace H := Option.bind_eq_some_iff.mp H
 obtain ⟨t386, A30, H⟩ := H
 replace H : (if t386 = true then (if 0 ≤ (a1.size : Int) then (if (a1.size : Int) ≤ (a0.size : Int) then (some (a0.extract ((a1.size : Int) : Int).toNat a0.size, true)) else (none)) else (none)) else (some (a0, false))) = some (r1, r2) := H
 have A3 := Aside0.mk A30
 clear A30
 by_cases c4 : t386 = true
 ·subst c4
  have H1 : (if 0 ≤ (a1.size : Int) then (if (a1.size : Int) ≤ (a0.size : Int) then (some (a0.extract ((a1.size : Int) : Int).toNat a0.size, true)) else (none)) else (none)) = some (r1, r2) := by rw [if_pos rfl] at H; exact H
  clear H
  have H := H1
  clear H1
  by_cases c5 : 0 ≤ (a1.size : Int)
  ·rw [if_pos c5] at H
   have c5b0 := eq_true c5
   have c5b1 : decide (0 ≤ (a1.size : Int)) = true := decide_eq_true c5
   clear c5
   by_cases c6 : (a1.size : Int) ≤ (a0.size : Int)
   ·rw [if_pos c6] at H
    have c6b0 := eq_true c6
    have c6b1 : decide ((a1.size : Int) ≤ (a0.size : Int)) = true := decide_eq_true c6
    clear c6
    simp only [Option.some.injEq, Prod.mk.injEq] at H
    obtain ⟨rfl, rfl⟩ := H
    go_enter Tryd.func122, Tryd.ntmps122
    go_wp2_with (first | ((with_reducible refine gate_callee (f := 104) rfl ?_); refine goesL_ (some 8) rfl rfl Tryd.func104 (by kernel_rfl) rfl #[.string a0, .string a1] rfl am ?_; (with_reducible refine (stringslite_HasPrefix.calls a0 a1 true _ A3.out).mono ?_); rintro e w' ⟨rfl, ⟨nd, rfl⟩⟩; refine ⟨_, rfl, ?_⟩))
    go_ret2
    exact ⟨by first | rfl | (simp; done) | (simp [*]; done) | (simp [nil_ne]; done) | (simp [u8_w, i64w_]; done) | (simp [size_lit]; done) | (simp; unfold wrap64; omega), by repeat (first | exact Drawn0.refl _ | apply Drawn0.step)⟩
   ·rw [if_neg c6] at H
    exact absurd H (by simp)
  ·rw [if_neg c5] at H
   exact absurd H (by simp)
 ·replace c4 := Bool.eq_false_iff.mpr c4
  subst c4
  have H1 : (some (a0, false)) = some (r1, r2) := by rw [if_neg (show ¬ (false = true) by decide)] at H; exact H
  clear H
  have H := H1
  clear H1
  simp only [Option.some.injEq, Prod.mk.injEq] at H
  obtain ⟨rfl, rfl⟩ := H
  go_enter Tryd.func122, Tryd.ntmps122
  go_wp2_with (first | ((with_reducible refine gate_callee (f := 104) rfl ?_); refine goesL_ (some 8) rfl rfl Tryd.func104 (by kernel_rfl) rfl #[.string a0, .string a1] rfl am ?_; (with_reducible refine (stringslite_HasPrefix.calls a0 a1 false _ A3.out).mono ?_); rintro e w' ⟨rfl, ⟨nd, rfl⟩⟩; refine ⟨_, rfl, ?_⟩))
  go_ret2
  exact ⟨by first | rfl | (simp; done) | (simp [*]; done) | (simp [nil_ne]; done) | (simp [u8_w, i64w_]; done) | (simp [size_lit]; done) | (simp; unfold wrap64; omega), by repeat (first | exact Drawn0.refl _ | apply Drawn0.step)⟩

end Go.Proofs.YtihabmcaplnbcaaDoor.Fn
namespace Go.Proofs.YtihabmcaplnbcaaDoor.Fn
open Go.RowKit Go.Proofs.YtihabmcaplnbcaaDoorW.PrintWords Go.Proofs.YtihabmcaplnbcaaDoorW.PrintLast Go.Proofs.YtihabmcaplnbcaaDoorW.PrintMore
attribute [local go_sem] max2_int min2_int max_two min_two max_three min_three max_four min_four
set_option linter.unusedVariables false
set_option linter.unusedSimpArgs false

/-! ### strings_CutPrefix: function 85 -/
def strings_CutPrefix.f (a0 : ByteArray) (a1 : ByteArray) : Option (ByteArray × Bool) := (stringslite_CutPrefix.f a0 a1).bind fun bt387 => (some (bt387.1, bt387.2))
set_option maxHeartbeats 8000000 in
set_option maxRecDepth 100000 in
theorem strings_CutPrefix.calls (a0 : ByteArray) (a1 : ByteArray) (r1 : ByteArray) (r2 : Bool) (w : World) (h : strings_CutPrefix.f a0 a1 = some (r1, r2)) :
  Calls Tryd.prog 85 #[.string a0, .string a1] w fun e w' => e = .returned (.tuple #[.string r1, .bool r2]) ∧ Drawn0 w w' := by
 have H : ((stringslite_CutPrefix.f a0 a1).bind fun bt387 => (some (bt387.1, bt387.2))) = some (r1, r2) := h
 clear h
 replace H := Option.bind_eq_some_iff.mp H
 obtain ⟨⟨t387, t388⟩, A30, H⟩ := H
 replace H : (some (t387, t388)) = some (r1, r2) := H
 have A3 := Aside0.mk A30
 clear A30
 simp only [Option.some.injEq, Prod.mk.injEq] at H
 obtain ⟨rfl, rfl⟩ := H
 go_enter Tryd.func85, Tryd.ntmps85
 go_wp2_with (first | ((with_reducible refine gate_callee (f := 122) rfl ?_); refine goesL_ (some 8) rfl rfl Tryd.func122 (by kernel_rfl) rfl #[.string a0, .string a1] rfl am ?_; (with_reducible refine (stringslite_CutPrefix.calls a0 a1 t387 t388 _ A3.out).mono ?_); rintro e w' ⟨rfl, ⟨nd, rfl⟩⟩; refine ⟨_, rfl, ?_⟩))
 go_ret2
 exact ⟨by first | rfl | (simp; done) | (simp [*]; done) | (simp [nil_ne]; done) | (simp [u8_w, i64w_]; done) | (simp [size_lit]; done) | (simp; unfold wrap64; omega), by repeat (first | exact Drawn0.refl _ | apply Drawn0.step)⟩

end Go.Proofs.YtihabmcaplnbcaaDoor.Fn
namespace Go.Proofs.YtihabmcaplnbcaaDoor.Fn
open Go.RowKit Go.Proofs.YtihabmcaplnbcaaDoorW.PrintWords Go.Proofs.YtihabmcaplnbcaaDoorW.PrintLast Go.Proofs.YtihabmcaplnbcaaDoorW.PrintMore
attribute [local go_sem] max2_int min2_int max_two min_two max_three min_three max_four min_four
set_option linter.unusedVariables false
set_option linter.unusedSimpArgs false

/-! ### strings_HasPrefix: function 65 -/
def strings_HasPrefix.f (a0 : ByteArray) (a1 : ByteArray) : Option (Bool) := (stringslite_HasPrefix.f a0 a1).bind fun t385 => (some t385)
set_option maxHeartbeats 8000000 in
set_option maxRecDepth 100000 in
theorem strings_HasPrefix.calls (a0 : ByteArray) (a1 : ByteArray) (r : Bool) (w : World) (h : strings_HasPrefix.f a0 a1 = some r) :
  Calls Tryd.prog 65 #[.string a0, .string a1] w fun e w' => e = .returned (.bool r) ∧ Drawn0 w w' := by
 have H : ((stringslite_HasPrefix.f a0 a1).bind fun t385 => (some t385)) = some r := h
 clear h
 replace H := Option.bind_eq_some_iff.mp H
 obtain ⟨t385, A30, H⟩ := H
 replace H : (some t385) = some r := H
 have A3 := Aside0.mk A30
 clear A30
 obtain rfl := Option.some.inj H
 go_enter Tryd.func65, Tryd.ntmps65
 go_wp2_with (first | ((with_reducible refine gate_callee (f := 104) rfl ?_); refine goesL_ (some 7) rfl rfl Tryd.func104 (by kernel_rfl) rfl #[.string a0, .string a1] rfl am ?_; (with_reducible refine (stringslite_HasPrefix.calls a0 a1 t385 _ A3.out).mono ?_); rintro e w' ⟨rfl, ⟨nd, rfl⟩⟩; refine ⟨_, rfl, ?_⟩))
 go_ret
 exact ⟨by first | rfl | (simp; done) | (simp [*]; done) | (simp [nil_ne]; done) | (simp [u8_w, i64w_]; done) | (simp [size_lit]; done) | (simp; unfold wrap64; omega), by repeat (first | exact Drawn0.refl _ | apply Drawn0.step)⟩

end Go.Proofs.YtihabmcaplnbcaaDoor.Fn
set_option linter.unusedVariables false
set_option linter.unusedSimpArgs false
namespace Go.Proofs.YtihabmcaplnbcaaDoor.Pl
open Go.RowKit Go.Proofs.YtihabmcaplnbcaaDoorW.PrintWords
def signsR (cs s : ByteArray) : ByteArray × Bool :=
  if fold (bs cs) = [117, 115, 45, 97, 115, 99, 105, 105] then (if asciiL (bs s) = true then (s, true) else (str [], false))
  else if fold (bs cs) = [117, 116, 102, 45, 56] then (s, valid s)
  else if fold (bs cs) = [105, 115, 111, 45, 56, 56, 53, 57, 45, 49] then (str ((bs s).flatMap fun c => er c.toNat), true)
  else (str [], false)
end Go.Proofs.YtihabmcaplnbcaaDoor.Pl
namespace Go.Proofs.YtihabmcaplnbcaaDoor.Fn
open Go.RowKit Go.Proofs.YtihabmcaplnbcaaDoorW.PrintWords

def ew_signs.f (a0 a1 : ByteArray) : Option (ByteArray × Bool) := if a0.size ≤ 1000000000 ∧ a1.size ≤ 1000000000 then some (Pl.signsR a0 a1) else none
set_option maxHeartbeats 4000000 in
set_option maxRecDepth 100000 in
theorem ew_signs.calls (a0 a1 r1 : ByteArray) (r2 : Bool) (w : World) (hG : Glob w) (h : ew_signs.f a0 a1 = some (r1, r2)) :
    Calls Tryd.prog 89 #[.string a0, .string a1] w fun e w' => e = .returned (.tuple #[.string r1, .bool r2]) ∧ Below w.heap.size w w' := by
  unfold ew_signs.f at h
  by_cases hs : a0.size ≤ 1000000000 ∧ a1.size ≤ 1000000000
  · rw [if_pos hs] at h
    have hr := Option.some.inj h
    clear h
    have hf : glyph_Fold.f a0 = some (Pl.str (Pl.fold (Pl.bs a0))) := by unfold glyph_Fold.f; rw [if_pos (by omega)]; rfl
    obtain ⟨F, hF⟩ : ∃ F, Pl.str (Pl.fold (Pl.bs a0)) = F := ⟨_, rfl⟩
    rw [hF] at hf
    have hl : F.toList = Pl.fold (Pl.bs a0) := by rw [← hF, Pl.toList_str]
    have HF := hid hf
    have HG := hid hG
    unfold Pl.signsR at hr
    rw [← hl] at hr
    clear hf hF hl hG
    by_cases h1 : F.toList = [117, 115, 45, 97, 115, 99, 105, 105]
    · rw [if_pos h1] at hr
      have c1 : (F.toList == [117, 115, 45, 97, 115, 99, 105, 105]) = true := beq_iff_eq.2 h1
      have HR := hid hr
      clear hr h1
      go_enter Tryd.func89, Tryd.ntmps89
      go_wp2_with (go_at_call 26; refine (glyph_Fold.calls a0 F _ HF.out).mono ?_; rintro e W1 ⟨rfl, b1⟩)
      go_loopw [15] (fun v15 wr => ∃ k : Nat, k ≤ a1.size ∧ v15 = .int .i64 k ∧ Below w.heap.size w wr ∧ Hid (Pl.asciiL ((Pl.bs a1).take k) = true)) (fun v15 _ => a1.size - (intOf v15).toNat)
      case atStart => exact ⟨0, Nat.zero_le _, rfl, b1, rfl⟩
      case round =>
        obtain ⟨k, hk, rfl, hB, hA⟩ := hrel
        by_cases hlt : k < a1.size
        · have hsn := Pl.take_snoc a1 k hlt
          have hA2 : Hid (Pl.asciiL ((Pl.bs a1).take (k + 1)) = decide (a1[k].toNat ≤ 127)) := by
            show Pl.asciiL (a1.data.toList.take (k + 1)) = _
            rw [hsn]
            have : Pl.asciiL (a1.data.toList.take k) = true := hA.out
            unfold Pl.asciiL at this ⊢
            rw [List.all_append, this]
            simp
          clear hsn hA
          by_cases hc : 127 < (a1[k].toNat : Int)
          · have hN : Hid (Pl.asciiL (Pl.bs a1) = false) := by
              show _ = _
              have h2 := hA2.out
              rw [decide_eq_false (by omega)] at h2
              rw [← List.take_append_drop (k + 1) (Pl.bs a1)]
              unfold Pl.asciiL at h2 ⊢
              rw [List.all_append, h2]
              rfl
            have HR' := HR.out
            rw [hN.out, if_neg (by decide)] at HR'
            injection HR' with e1 e2
            subst e1 e2
            clear hA2 hN HR
            go_wp2
            go_ret2
            exact ⟨rfl, hB⟩
          · have hc2 : (a1[k].toNat : Int) ≤ 127 := by omega
            have hA3 : Hid (Pl.asciiL ((Pl.bs a1).take (k + 1)) = true) := by
              show _ = _
              rw [hA2.out]
              exact decide_eq_true (by omega)
            clear hA2 hc
            go_wp2
            go_roundw
            case rel => exact ⟨k + 1, by omega, by go_num, hB, hA3⟩
            case measure => simp [intOf]; omega
        · have hA3 : Pl.asciiL (Pl.bs a1) = true := by
            have := hA.out
            rwa [List.take_of_length_le (by rw [Pl.bs_length]; omega)] at this
          have HR' := HR.out
          rw [hA3, if_pos rfl] at HR'
          injection HR' with e1 e2
          subst e1 e2
          clear hA3 hA HR
          go_wp2
          go_ret2
          exact ⟨rfl, hB⟩
    · rw [if_neg h1] at hr
      have c1 : (F.toList == [117, 115, 45, 97, 115, 99, 105, 105]) = false := beq_eq_false_iff_ne.2 h1
      by_cases h2 : F.toList = [117, 116, 102, 45, 56]
      · rw [if_pos h2] at hr
        injection hr with e1 e2
        have hv : glyph_Valid.f a1 = some r2 := by unfold glyph_Valid.f; rw [if_pos (by omega), e2]
        subst e1
        have c2 : (F.toList == [117, 116, 102, 45, 56]) = true := beq_iff_eq.2 h2
        have HV := hid hv
        clear hv e2
        go_enter Tryd.func89, Tryd.ntmps89
        go_wp2_with (first | (go_at_call 26; refine (glyph_Fold.calls a0 F _ HF.out).mono ?_; rintro e W1 ⟨rfl, b1⟩; have hG1 := hid (HG.out.below b1)) | (go_at_call 20; refine (glyph_Valid.calls a1 r2 _ hG1.out HV.out).mono ?_; rintro e W2 ⟨rfl, b2⟩))
        go_ret2
        exact ⟨rfl, b1.trans (b2.mono b1.size)⟩
      · rw [if_neg h2] at hr
        have c2 : (F.toList == [117, 116, 102, 45, 56]) = false := beq_eq_false_iff_ne.2 h2
        by_cases h3 : F.toList = [105, 115, 111, 45, 56, 56, 53, 57, 45, 49]
        · rw [if_pos h3] at hr
          injection hr with e1 e2
          subst e2
          have c3 : (F.toList == [105, 115, 111, 45, 56, 56, 53, 57, 45, 49]) = true := beq_iff_eq.2 h3
          have HR := hid e1
          clear e1
          go_enter Tryd.func89, Tryd.ntmps89
          go_wp2_with (go_at_call 26; refine (glyph_Fold.calls a0 F _ HF.out).mono ?_; rintro e W1 ⟨rfl, b1⟩)
          have hB1 := b1.size
          go_loopw [33] (fun v33 wr => ∃ k : Nat, k ≤ a1.size ∧ v33 = .int .i64 k ∧ isBd W1.heap.size W1.heap.size (Lib.byteCells (((Pl.bs a1).take k).flatMap fun c => Pl.er c.toNat)) wr ∧ Below W1.heap.size W1 wr ∧ (((Pl.bs a1).take k).flatMap fun c => Pl.er c.toNat).length ≤ 4 * k) (fun v33 _ => a1.size - (intOf v33).toNat)
          case atStart => exact ⟨0, Nat.zero_le _, rfl, Lib.IsBuilderF.of (Lib.fresh_isBuilder _ _ W1), (Below.refl _ W1).alloc (Nat.le_refl _) _, by simp⟩
          case round =>
            obtain ⟨k, hk, rfl, hI, hB, hl⟩ := hrel
            have hB2 := hB.size
            by_cases hlt : k < a1.size
            · have hct := a1[k].toNat_lt
              have hsn : ((Pl.bs a1).take (k + 1)).flatMap (fun c => Pl.er c.toNat) = ((Pl.bs a1).take k).flatMap (fun c => Pl.er c.toNat) ++ Pl.er a1[k].toNat := by
                rw [show (Pl.bs a1).take (k + 1) = (Pl.bs a1).take k ++ [a1[k]] from Pl.take_snoc a1 k hlt]
                simp
              have hl4 := Lib.runeCells_le (a1[k].toNat : Int)
              have hE : Lib.byteCells (Pl.er a1[k].toNat) = Lib.runeCells (a1[k].toNat : Int) := Lib.byteCells_encodeRune _
              have hE2 : (Pl.er a1[k].toNat).length ≤ 4 := by
                rw [Lib.runeCells_length] at hl4
                exact hl4.2
              have HS := hid hsn
              have HE := hid hE
              clear hsn hl4 hE
              go_wp2_with (go_at_call 60; refine (bd_rune W1.heap.size W1.heap.size _ _ (by omega) (by omega) _ hI (by rw [Lib.byteCells_length]; omega) hB2).mono ?_; rintro e W2 ⟨rfl, h1, b2, _⟩)
              go_roundw
              case rel =>
                refine ⟨k + 1, by omega, by go_num, ?_, hB.trans b2, ?_⟩
                · rw [HS.out, Lib.byteCells_append, HE.out]; exact h1.is
                · rw [HS.out, List.length_append]; omega
              case measure => simp [intOf]; omega
            · have hend : Hid (((Pl.bs a1).take k).flatMap (fun c => Pl.er c.toNat) = (Pl.bs a1).flatMap (fun c => Pl.er c.toNat)) := by
                show _ = _
                rw [List.take_of_length_le (by rw [Pl.bs_length]; omega)]
              go_wp2_with (go_at_call 48; refine (Tryd.Builder_String_any_k W1.heap.size W1.heap.size _ _ hI hB2).mono ?_; rintro e W2 ⟨rfl, _, b2, _⟩)
              go_ret2
              refine ⟨?_, b1.trans ((hB.trans b2).mono hB1)⟩
              rw [← HR.out, ← hend.out]
              rfl
        · rw [if_neg h3] at hr
          injection hr with e1 e2
          subst e1 e2
          have c3 : (F.toList == [105, 115, 111, 45, 56, 56, 53, 57, 45, 49]) = false := beq_eq_false_iff_ne.2 h3
          go_enter Tryd.func89, Tryd.ntmps89
          go_wp2_with (go_at_call 26; refine (glyph_Fold.calls a0 F _ HF.out).mono ?_; rintro e W1 ⟨rfl, b1⟩)
          go_ret2
          exact ⟨rfl, b1⟩
  · rw [if_neg hs] at h; exact absurd h (by simp)
end Go.Proofs.YtihabmcaplnbcaaDoor.Fn
set_option linter.unusedVariables false
namespace Go.Proofs.YtihabmcaplnbcaaDoor.Fn
open Go.RowKit Go.Proofs.YtihabmcaplnbcaaDoorW.PrintWords

def strings_SplitN.f (a0 a1 : ByteArray) (a2 : Int) : Option (List ByteArray) :=
  if a0.size < 4294967281 then (if 1 ≤ a1.size then (if 1 ≤ a2 ∧ a2 ≤ 1000 then some (Lib.splitB a1 0 (min a2.toNat (a0.size + 1) - 1) a0) else none) else none) else none
theorem strings_SplitN.calls (a0 a1 : ByteArray) (a2 : Int) (r : List ByteArray) (w : World) (hG : Glob w) (h : strings_SplitN.f a0 a1 a2 = some r) :
    Calls Tryd.prog 86 #[.string a0, .string a1, .int .i64 a2] w fun e w' => ∃ v0_ : Value, e = .returned (v0_) ∧ Kd.R Kd.string 9 w' w.heap.size (fun _ => True) v0_ r ∧ Below w.heap.size w w' := by
  unfold strings_SplitN.f at h
  by_cases hs : a0.size < 4294967281
  · rw [if_pos hs] at h
    by_cases h1 : 1 ≤ a1.size
    · rw [if_pos h1] at h
      by_cases h2 : 1 ≤ a2 ∧ a2 ≤ 1000
      · rw [if_pos h2] at h
        have HR := Option.some.inj h
        clear h
        subst HR
        obtain ⟨m, hm⟩ := hG.max
        obtain ⟨n, rfl⟩ : ∃ n : Nat, a2 = n := ⟨a2.toNat, by omega⟩
        refine (Tryd.strings_SplitN a0 a1 n m w hs hm h1 (by omega) (by omega)).mono ?_
        rintro e w' ⟨rfl, rfl⟩
        have hl := Lib.splitB_length_le a1 0 (min n (a0.size + 1) - 1) a0
        have hle : (Lib.splitB a1 0 (min n (a0.size + 1) - 1) a0).length ≤ min n (a0.size + 1) := by omega
        refine ⟨_, rfl, Kd.R_of_own ⟨by simp [encs], .inr ⟨w.heap.size, min n (a0.size + 1), _, rfl, Nat.le_refl _, World.alloc_heap_new w _, ?_, ?_, ?_, ?_⟩⟩ (fun _ _ => trivial), (Below.refl _ w).alloc (Nat.le_refl _) _⟩
        · exact hle
        · unfold maxLen; omega
        · rw [Lib.cellsOf_size hle, Nat.mul_one]
        · simp [Lib.cellsOf, encs]
      · rw [if_neg h2] at h; exact absurd h (by simp)
    · rw [if_neg h1] at h; exact absurd h (by simp)
  · rw [if_neg hs] at h; exact absurd h (by simp)
end Go.Proofs.YtihabmcaplnbcaaDoor.Fn
namespace Go.Proofs.YtihabmcaplnbcaaDoor.Fn
open Go.RowKit Go.Proofs.YtihabmcaplnbcaaDoorW.PrintWords Go.Proofs.YtihabmcaplnbcaaDoorW.PrintLast Go.Proofs.YtihabmcaplnbcaaDoorW.PrintMore
attribute [local go_sem] max2_int min2_int max_two min_two max_three min_three max_four min_four
set_option linter.unusedVariables false
set_option linter.unusedSimpArgs false

/-! ### ew_word: function 44 -/
mutual
def ew_word.j0 : Nat → List ByteArray → Bool → Option (ByteArray × Int)
 | 0, _, _ => none
 | k + 1, x6, x48 => if x48 = true then (some ((⟨#[]⟩ : ByteArray), 0)) else (if 0 < (x6.length : Int) then (if 1 < (x6.length : Int) then (if 2 < (x6.length : Int) then ((ew_octets.f k (rdOf ByteArray.empty x6 1) (rdOf ByteArray.empty x6 2)).bind fun bt478 => (if (wrap64 ((wrap64 ((wrap64 ((wrap64 ((wrap64 ((wrap64 (2 + ((rdOf ByteArray.empty x6 0).size : Int))) + 1)) + ((rdOf ByteArray.empty x6 1).size : Int))) + 1)) + ((rdOf ByteArray.empty x6 2).size : Int))) + 2)) > 75 then (ew_word.j1 k x6 (wrap64 ((wrap64 ((wrap64 ((wrap64 ((wrap64 ((wrap64 (2 + ((rdOf ByteArray.empty x6 0).size : Int))) + 1)) + ((rdOf ByteArray.empty x6 1).size : Int))) + 1)) + ((rdOf ByteArray.empty x6 2).size : Int))) + 2)) bt478.1 true) else (ew_word.j1 k x6 (wrap64 ((wrap64 ((wrap64 ((wrap64 ((wrap64 ((wrap64 (2 + ((rdOf ByteArray.empty x6 0).size : Int))) + 1)) + ((rdOf ByteArray.empty x6 1).size : Int))) + 1)) + ((rdOf ByteArray.empty x6 2).size : Int))) + 2)) bt478.1 (!bt478.2)))) else (none)) else (none)) else (none))
def ew_word.j1 : Nat → List ByteArray → Int → ByteArray → Bool → Option (ByteArray × Int)
 | 0, _, _, _, _ => none
 | k + 1, x6, x7, x8, x82 => if x82 = true then (some ((⟨#[]⟩ : ByteArray), 0)) else (if 0 < (x6.length : Int) then ((ew_signs.f (rdOf ByteArray.empty x6 0) x8).bind fun bt481 => (if bt481.2 = true then (some (bt481.1, x7)) else (some ((⟨#[]⟩ : ByteArray), 0)))) else (none))
end
def ew_word.f (k : Nat) (a0 : ByteArray) : Option (ByteArray × Int) := (strings_CutPrefix.f a0 (⟨#[61, 63]⟩ : ByteArray)).bind fun bt461 => (if bt461.2 = true then ((strings_SplitN.f bt461.1 (⟨#[63]⟩ : ByteArray) 4).bind fun t463 => (if (t463.length : Int) < 4 then (ew_word.j0 k t463 true) else (if 0 < (t463.length : Int) then (if (rdOf ByteArray.empty t463 0).toList = ([] : List UInt8) then (ew_word.j0 k t463 true) else ((ew_solid.f k (rdOf ByteArray.empty t463 0)).bind fun t468 => (if t468 = true then (if 2 < (t463.length : Int) then ((ew_solid.f k (rdOf ByteArray.empty t463 2)).bind fun t470 => (if t470 = true then (if 3 < (t463.length : Int) then ((strings_HasPrefix.f (rdOf ByteArray.empty t463 3) (⟨#[61]⟩ : ByteArray)).bind fun t472 => (ew_word.j0 k t463 (!t472))) else (none)) else (ew_word.j0 k t463 true))) else (none)) else (ew_word.j0 k t463 true)))) else (none)))) else (some ((⟨#[]⟩ : ByteArray), 0)))
def ew_word.T7 : Bool × List (List Nat × List Nat) := (true, [([], []), ([0], [0]), ([1], [1]), ([2], [2]), ([3], [3]), ([4], [4]), ([], []), ([6], [6]), ([7], [7]), ([8], [8]), ([5, 9], [5, 9]), ([10], [10]), ([], []), ([12], [12]), ([13], [13]), ([14], [14]), ([11, 15], [11, 15]), ([16], [16]), ([17, 0, 1, 2, 3, 4, 5, 6, 7, 8, 9, 10, 11, 12, 13, 14, 15, 16, 17], [17])])
def ew_word.B7 : List Nat := [0, 1, 3, 7, 15, 31, 0, 64, 192, 448, 1023, 2047, 0, 4096, 12288, 28672, 65535, 131071, 262143]
theorem ew_word.tab7 : rtab .any (opsOf Tryd.f44 7) = ew_word.T7 := by kernel_rfl
theorem ew_word.bits7 : waitsOk ew_word.T7.2 ew_word.B7 = true := by kernel_rfl
def ew_word.T8 : Bool × List (List Nat × List Nat) := (true, [([], []), ([0], [0]), ([1], [1]), ([], []), ([3], [3]), ([4], [4]), ([2, 5], [2, 5]), ([6], [6]), ([7], [7]), ([7], [7]), ([8, 6, 0, 1, 2, 3, 4, 5, 6, 7, 8], [8]), ([9, 10, 0, 1, 2, 3, 4, 5, 6, 7, 8, 9, 10], [9])])
def ew_word.B8 : List Nat := [0, 1, 3, 0, 8, 24, 63, 127, 255, 255, 511, 2047]
theorem ew_word.tab8 : rtab .any (opsOf Tryd.f44 8) = ew_word.T8 := by kernel_rfl
theorem ew_word.bits8 : waitsOk ew_word.T8.2 ew_word.B8 = true := by kernel_rfl
set_option maxHeartbeats 8000000 in
set_option maxRecDepth 100000 in
theorem ew_word.calls (k : Nat) (a0 : ByteArray) (r1 : ByteArray) (r2 : Int) (w : World) (hG : Glob w) (h : ew_word.f k a0 = some (r1, r2)) :
  Calls Tryd.prog 44 #[.string a0] w fun e w' => e = .returned (.tuple #[.string r1, .int .i64 r2]) ∧ Below w.heap.size w w' := by
 have HB := Aside0.mk (Below.refl w.heap.size w)
 have H : ((strings_CutPrefix.f a0 (⟨#[61, 63]⟩ : ByteArray)).bind fun bt461 => (if bt461.2 = true then ((strings_SplitN.f bt461.1 (⟨#[63]⟩ : ByteArray) 4).bind fun t463 => (if (t463.length : Int) < 4 then (ew_word.j0 k t463 true) else (if 0 < (t463.length : Int) then (if (rdOf ByteArray.empty t463 0).toList = ([] : List UInt8) then (ew_word.j0 k t463 true) else ((ew_solid.f k (rdOf ByteArray.empty t463 0)).bind fun t468 => (if t468 = true then (if 2 < (t463.length : Int) then ((ew_solid.f k (rdOf ByteArray.empty t463 2)).bind fun t470 => (if t470 = true then (if 3 < (t463.length : Int) then ((strings_HasPrefix.f (rdOf ByteArray.empty t463 3) (⟨#[61]⟩ : ByteArray)).bind fun t472 => (ew_word.j0 k t463 (!t472))) else (none)) else (ew_word.j0 k t463 true))) else (none)) else (ew_word.j0 k t463 true)))) else (none)))) else (some ((⟨#[]⟩ : ByteArray), 0)))) = some (r1, r2) := h
 clear h
 replace H := Option.bind_eq_some_iff.mp H
 obtain ⟨⟨t461, t462⟩, A20, H⟩ := H
 replace H : (if t462 = true then ((strings_SplitN.f t461 (⟨#[63]⟩ : ByteArray) 4).bind fun t463 => (if (t463.length : Int) < 4 then (ew_word.j0 k t463 true) else (if 0 < (t463.length : Int) then (if (rdOf ByteArray.empty t463 0).toList = ([] : List UInt8) then (ew_word.j0 k t463 true) else ((ew_solid.f k (rdOf ByteArray.empty t463 0)).bind fun t468 => (if t468 = true then (if 2 < (t463.length : Int) then ((ew_solid.f k (rdOf ByteArray.empty t463 2)).bind fun t470 => (if t470 = true then (if 3 < (t463.length : Int) then ((strings_HasPrefix.f (rdOf ByteArray.empty t463 3) (⟨#[61]⟩ : ByteArray)).bind fun t472 => (ew_word.j0 k t463 (!t472))) else (none)) else (ew_word.j0 k t463 true))) else (none)) else (ew_word.j0 k t463 true)))) else (none)))) else (some ((⟨#[]⟩ : ByteArray), 0))) = some (r1, r2) := H
 have A2 := Aside0.mk A20
 clear A20
 by_cases c3 : t462 = true
 ·subst c3
  have H1 : ((strings_SplitN.f t461 (⟨#[63]⟩ : ByteArray) 4).bind fun t463 => (if (t463.length : Int) < 4 then (ew_word.j0 k t463 true) else (if 0 < (t463.length : Int) then (if (rdOf ByteArray.empty t463 0).toList = ([] : List UInt8) then (ew_word.j0 k t463 true) else ((ew_solid.f k (rdOf ByteArray.empty t463 0)).bind fun t468 => (if t468 = true then (if 2 < (t463.length : Int) then ((ew_solid.f k (rdOf ByteArray.empty t463 2)).bind fun t470 => (if t470 = true then (if 3 < (t463.length : Int) then ((strings_HasPrefix.f (rdOf ByteArray.empty t463 3) (⟨#[61]⟩ : ByteArray)).bind fun t472 => (ew_word.j0 k t463 (!t472))) else (none)) else (ew_word.j0 k t463 true))) else (none)) else (ew_word.j0 k t463 true)))) else (none)))) = some (r1, r2) := by rw [if_pos rfl] at H; exact H
  clear H
  have H := H1
  clear H1
  replace H := Option.bind_eq_some_iff.mp H
  obtain ⟨t463, A40, H⟩ := H
  replace H : (if (t463.length : Int) < 4 then (ew_word.j0 k t463 true) else (if 0 < (t463.length : Int) then (if (rdOf ByteArray.empty t463 0).toList = ([] : List UInt8) then (ew_word.j0 k t463 true) else ((ew_solid.f k (rdOf ByteArray.empty t463 0)).bind fun t468 => (if t468 = true then (if 2 < (t463.length : Int) then ((ew_solid.f k (rdOf ByteArray.empty t463 2)).bind fun t470 => (if t470 = true then (if 3 < (t463.length : Int) then ((strings_HasPrefix.f (rdOf ByteArray.empty t463 3) (⟨#[61]⟩ : ByteArray)).bind fun t472 => (ew_word.j0 k t463 (!t472))) else (none)) else (ew_word.j0 k t463 true))) else (none)) else (ew_word.j0 k t463 true)))) else (none))) = some (r1, r2) := H
  have A4 := Aside0.mk A40
  clear A40
  have HC5 := Aside0.mk H
  clear H
  go_enter Tryd.func44, Tryd.ntmps44
  go_upto_region 5 with (first | ((with_reducible refine gate_callee (f := 85) rfl ?_); refine goesL_ (some 12) rfl rfl Tryd.func85 (by kernel_rfl) rfl #[.string a0, .string (⟨#[61, 63]⟩ : ByteArray)] rfl am ?_; (with_reducible refine (strings_CutPrefix.calls a0 (⟨#[61, 63]⟩ : ByteArray) t461 true _ A2.out).mono ?_); rintro e w' ⟨rfl, ⟨nd, rfl⟩⟩; refine ⟨_, rfl, ?_⟩) | ((with_reducible refine gate_callee (f := 86) rfl ?_); refine goesL_ (some 18) rfl rfl Tryd.func86 (by kernel_rfl) rfl #[.string t461, .string (⟨#[63]⟩ : ByteArray), .int .i64 4] rfl am ?_; (with_reducible refine (strings_SplitN.calls (hG := by first | exact hG | exact Glob.below hG (by first | exact HB.out | (repeat (first | (with_reducible first | exact HB.out | apply below_alloc | apply pw_below_drewN | apply below_drew1) | exact HB.out))) | exact Glob.drawn hG (by repeat (first | exact Drawn0.refl _ | apply Drawn0.step))) t461 (⟨#[63]⟩ : ByteArray) 4 t463 _ A4.out).mono ?_); rintro e w6 ⟨v464, rfl, ho0, hb⟩; refine ⟨_, rfl, ?_⟩; have n0_ := Aside0.mk (Kd.R_lower ho0 (below_size bw)); have n1_ := Aside0.mk (below_step bw hb); clear HB; have HO465 := n0_; have HB := n1_; clear n0_ n1_; (try clear hb); (try clear hb2); (try clear hk); (try clear hi); (try clear ho0)))
  (try simp only [Act.put, List.setIfInBounds_toArray, List.set_cons_zero, List.set_cons_succ])
  go_cut [48] (fun v48 wc => ∃ (kq : Nat) (x48_4 : Bool), v48 = .bool x48_4 ∧ Aside0 (ew_word.j0 kq t463 x48_4 = some (r1, r2)) ∧ Aside0 (kq ≤ k) ∧ Aside0 (Kd.R Kd.string 9 wc w.heap.size (fun _ => True) v464 t463) ∧ Aside0 (Below w.heap.size w wc))
  case first =>
   have H := HC5.out
   clear HC5
   by_cases c7 : (t463.length : Int) < 4
   ·rw [if_pos c7] at H
    have c7b0 : decide ((t463.length : Int) < 4) = true := decide_eq_true c7
    have c7b1 : decide (t463.length < 4) = true := decide_eq_true (by omega)
    clear c7
    (first | rw [c7b0] | (simp only [i64_w, i32_w]; rw [c7b0]) | skip)
    have H' := Aside0.mk H
    clear H
    obtain ⟨Ao8, co8, eo8⟩ := Kd.R_slice HO465.out
    subst eo8
    go_wp2
    go_meet
    case rel => exact ⟨_, (true), (by first | rfl | (simp; done) | (simp [*]; done) | (simp [nil_ne]; done) | (simp [u8_w, i64w_]; done) | (simp [size_lit]; done) | (simp; unfold wrap64; omega)), H', ⟨by first | omega | exact Nat.le_refl _⟩, ⟨by (with_reducible repeat (first | apply Kd.R_alloc | apply Kd.R_drewN | apply Kd.R_drew)); exact HO465.out⟩, ⟨bw⟩⟩
   ·rw [if_neg c7] at H
    have c7b0 : decide ((t463.length : Int) < 4) = false := decide_eq_false c7
    have c7b1 : decide (t463.length < 4) = false := decide_eq_false (by omega)
    clear c7
    (first | rw [c7b0] | (simp only [i64_w, i32_w]; rw [c7b0]) | skip)
    by_cases c9 : 0 < (t463.length : Int)
    ·rw [if_pos c9] at H
     have c9b0 : decide (0 < (t463.length : Int)) = true := decide_eq_true c9
     have c9b1 : decide (0 < t463.length) = true := decide_eq_true (by omega)
     clear c9
     by_cases c10 : (rdOf ByteArray.empty t463 0).toList = ([] : List UInt8)
     ·rw [if_pos c10] at H
      have c10b0 : ((rdOf ByteArray.empty t463 0).toList == ([] : List UInt8)) = true := beq_iff_eq.mpr c10
      have c10b1 : ((rdOf ByteArray.empty t463 0).toList != ([] : List UInt8)) = false := bne_eq_false_iff_eq.mpr c10
      clear c10
      have H' := Aside0.mk H
      clear H
      obtain ⟨Ao11, co11, eo11⟩ := Kd.R_slice HO465.out
      subst eo11
      have p466 : 0 ≤ (0 : Int) := (by omega)
      have q466 : 0 < (t463.length : Int) := od
      obtain ⟨ad466, e466, hx466_0⟩ := Kd.at_string (Kd.R_reads' HO465.out).2.2 0 p466 q466
      cases e466
      have qi466 : (0 < t463.length) = True := eq_true (by omega)
      (try rw [show ((0 : Int)).toNat = 0 from rfl] at hx466_0)
      (try rw [Addr.add_zero'] at hx466_0)
      replace p466 := eq_true p466
      replace q466 := eq_true q466
      go_wp2
      go_meet
      case rel => exact ⟨_, (true), (by first | rfl | (simp; done) | (simp [*]; done) | (simp [nil_ne]; done) | (simp [u8_w, i64w_]; done) | (simp [size_lit]; done) | (simp; unfold wrap64; omega)), H', ⟨by first | omega | exact Nat.le_refl _⟩, ⟨by (with_reducible repeat (first | apply Kd.R_alloc | apply Kd.R_drewN | apply Kd.R_drew)); exact HO465.out⟩, ⟨bw⟩⟩
     ·rw [if_neg c10] at H
      have c10b0 : ((rdOf ByteArray.empty t463 0).toList == ([] : List UInt8)) = false := beq_eq_false_iff_ne.mpr c10
      have c10b1 : ((rdOf ByteArray.empty t463 0).toList != ([] : List UInt8)) = true := bne_iff_ne.mpr c10
      replace H := Option.bind_eq_some_iff.mp H
      obtain ⟨t468, A120, H⟩ := H
      replace H : (if t468 = true then (if 2 < (t463.length : Int) then ((ew_solid.f k (rdOf ByteArray.empty t463 2)).bind fun t470 => (if t470 = true then (if 3 < (t463.length : Int) then ((strings_HasPrefix.f (rdOf ByteArray.empty t463 3) (⟨#[61]⟩ : ByteArray)).bind fun t472 => (ew_word.j0 k t463 (!t472))) else (none)) else (ew_word.j0 k t463 true))) else (none)) else (ew_word.j0 k t463 true)) = some (r1, r2) := H
      have A12 := Aside0.mk A120
      clear A120
      by_cases c13 : t468 = true
      ·subst c13
       have H1 : (if 2 < (t463.length : Int) then ((ew_solid.f k (rdOf ByteArray.empty t463 2)).bind fun t470 => (if t470 = true then (if 3 < (t463.length : Int) then ((strings_HasPrefix.f (rdOf ByteArray.empty t463 3) (⟨#[61]⟩ : ByteArray)).bind fun t472 => (ew_word.j0 k t463 (!t472))) else (none)) else (ew_word.j0 k t463 true))) else (none)) = some (r1, r2) := by rw [if_pos rfl] at H; exact H
       clear H
       have H := H1
       clear H1
       by_cases c14 : 2 < (t463.length : Int)
       ·rw [if_pos c14] at H
        have c14b0 : decide (2 < (t463.length : Int)) = true := decide_eq_true c14
        have c14b1 : decide (2 < t463.length) = true := decide_eq_true (by omega)
        clear c14
        replace H := Option.bind_eq_some_iff.mp H
        obtain ⟨t470, A150, H⟩ := H
        replace H : (if t470 = true then (if 3 < (t463.length : Int) then ((strings_HasPrefix.f (rdOf ByteArray.empty t463 3) (⟨#[61]⟩ : ByteArray)).bind fun t472 => (ew_word.j0 k t463 (!t472))) else (none)) else (ew_word.j0 k t463 true)) = some (r1, r2) := H
        have A15 := Aside0.mk A150
        clear A150
        by_cases c16 : t470 = true
        ·subst c16
         have H1 : (if 3 < (t463.length : Int) then ((strings_HasPrefix.f (rdOf ByteArray.empty t463 3) (⟨#[61]⟩ : ByteArray)).bind fun t472 => (ew_word.j0 k t463 (!t472))) else (none)) = some (r1, r2) := by rw [if_pos rfl] at H; exact H
         clear H
         have H := H1
         clear H1
         by_cases c17 : 3 < (t463.length : Int)
         ·rw [if_pos c17] at H
          have c17b0 : decide (3 < (t463.length : Int)) = true := decide_eq_true c17
          have c17b1 : decide (3 < t463.length) = true := decide_eq_true (by omega)
          clear c17
          replace H := Option.bind_eq_some_iff.mp H
          obtain ⟨t472, A180, H⟩ := H
          replace H : (ew_word.j0 k t463 (!t472)) = some (r1, r2) := H
          have A18 := Aside0.mk A180
          clear A180
          have H' := Aside0.mk H
          clear H
          obtain ⟨Ao19, co19, eo19⟩ := Kd.R_slice HO465.out
          subst eo19
          have p466 : 0 ≤ (0 : Int) := (by omega)
          have q466 : 0 < (t463.length : Int) := od
          obtain ⟨ad466, e466, hx466_0⟩ := Kd.at_string (Kd.R_reads' HO465.out).2.2 0 p466 q466
          cases e466
          have qi466 : (0 < t463.length) = True := eq_true (by omega)
          (try rw [show ((0 : Int)).toNat = 0 from rfl] at hx466_0)
          (try rw [Addr.add_zero'] at hx466_0)
          replace p466 := eq_true p466
          replace q466 := eq_true q466
          have p467 : 0 ≤ (0 : Int) := (by omega)
          have q467 : 0 < (t463.length : Int) := od
          obtain ⟨ad467, e467, hx467_0⟩ := Kd.at_string (Kd.R_reads' HO465.out).2.2 0 p467 q467
          obtain rfl : ad466 = ad467 := (by injection e467)
          have qi467 : (0 < t463.length) = True := eq_true (by omega)
          (try rw [show ((0 : Int)).toNat = 0 from rfl] at hx467_0)
          (try rw [Addr.add_zero'] at hx467_0)
          replace p467 := eq_true p467
          replace q467 := eq_true q467
          go_wp2_with (first | (go_at_call 87; (with_reducible refine (ew_solid.calls k (rdOf ByteArray.empty t463 0) true _ A12.out).mono ?_); rintro e w' ⟨rfl, ⟨nd, rfl⟩⟩; have p469 : 0 ≤ (2 : Int) := (by omega); have q469 : 2 < (t463.length : Int) := od; obtain ⟨ad469, e469, hx469_0⟩ := Kd.at_string (Kd.R_reads' HO465.out).2.2 2 p469 q469; obtain rfl : ad466 = ad469 := (by injection e469); (try simp only [show (2 : Int).toNat = 2 from rfl, Nat.reduceMul, Nat.reduceEqDiff, Go.Addr.add, ↓reduceIte] at hx469_0); have qi469 : (2 < t463.length) = True := eq_true (by omega); (try rw [show ((2 : Int)).toNat = 2 from rfl] at hx469_0); replace p469 := eq_true p469; replace q469 := eq_true q469) | (go_at_call 87; (with_reducible refine (ew_solid.calls k (rdOf ByteArray.empty t463 2) true _ A15.out).mono ?_); rintro e w' ⟨rfl, ⟨nd, rfl⟩⟩; have p471 : 0 ≤ (3 : Int) := (by omega); have q471 : 3 < (t463.length : Int) := od; obtain ⟨ad471, e471, hx471_0⟩ := Kd.at_string (Kd.R_reads' HO465.out).2.2 3 p471 q471; obtain rfl : ad466 = ad471 := (by injection e471); (try simp only [show (3 : Int).toNat = 3 from rfl, Nat.reduceMul, Nat.reduceEqDiff, Go.Addr.add, ↓reduceIte] at hx471_0); have qi471 : (3 < t463.length) = True := eq_true (by omega); (try rw [show ((3 : Int)).toNat = 3 from rfl] at hx471_0); replace p471 := eq_true p471; replace q471 := eq_true q471) | (go_at_call 65; (with_reducible refine (strings_HasPrefix.calls (rdOf ByteArray.empty t463 3) (⟨#[61]⟩ : ByteArray) t472 _ A18.out).mono ?_); rintro e w' ⟨rfl, ⟨nd, rfl⟩⟩))
          go_meet
          case rel => exact ⟨_, (!t472), (by first | rfl | (simp; done) | (simp [*]; done) | (simp [nil_ne]; done) | (simp [u8_w, i64w_]; done) | (simp [size_lit]; done) | (simp; unfold wrap64; omega)), H', ⟨by first | omega | exact Nat.le_refl _⟩, ⟨by (with_reducible repeat (first | apply Kd.R_alloc | apply Kd.R_drewN | apply Kd.R_drew)); exact HO465.out⟩, ⟨bw⟩⟩
         ·rw [if_neg c17] at H
          exact absurd H (by simp)
        ·replace c16 := Bool.eq_false_iff.mpr c16
         subst c16
         have H1 : (ew_word.j0 k t463 true) = some (r1, r2) := by rw [if_neg (show ¬ (false = true) by decide)] at H; exact H
         clear H
         have H := H1
         clear H1
         have H' := Aside0.mk H
         clear H
         obtain ⟨Ao20, co20, eo20⟩ := Kd.R_slice HO465.out
         subst eo20
         have p466 : 0 ≤ (0 : Int) := (by omega)
         have q466 : 0 < (t463.length : Int) := od
         obtain ⟨ad466, e466, hx466_0⟩ := Kd.at_string (Kd.R_reads' HO465.out).2.2 0 p466 q466
         cases e466
         have qi466 : (0 < t463.length) = True := eq_true (by omega)
         (try rw [show ((0 : Int)).toNat = 0 from rfl] at hx466_0)
         (try rw [Addr.add_zero'] at hx466_0)
         replace p466 := eq_true p466
         replace q466 := eq_true q466
         have p467 : 0 ≤ (0 : Int) := (by omega)
         have q467 : 0 < (t463.length : Int) := od
         obtain ⟨ad467, e467, hx467_0⟩ := Kd.at_string (Kd.R_reads' HO465.out).2.2 0 p467 q467
         obtain rfl : ad466 = ad467 := (by injection e467)
         have qi467 : (0 < t463.length) = True := eq_true (by omega)
         (try rw [show ((0 : Int)).toNat = 0 from rfl] at hx467_0)
         (try rw [Addr.add_zero'] at hx467_0)
         replace p467 := eq_true p467
         replace q467 := eq_true q467
         go_wp2_with (first | (go_at_call 87; (with_reducible refine (ew_solid.calls k (rdOf ByteArray.empty t463 0) true _ A12.out).mono ?_); rintro e w' ⟨rfl, ⟨nd, rfl⟩⟩; have p469 : 0 ≤ (2 : Int) := (by omega); have q469 : 2 < (t463.length : Int) := od; obtain ⟨ad469, e469, hx469_0⟩ := Kd.at_string (Kd.R_reads' HO465.out).2.2 2 p469 q469; obtain rfl : ad466 = ad469 := (by injection e469); (try simp only [show (2 : Int).toNat = 2 from rfl, Nat.reduceMul, Nat.reduceEqDiff, Go.Addr.add, ↓reduceIte] at hx469_0); have qi469 : (2 < t463.length) = True := eq_true (by omega); (try rw [show ((2 : Int)).toNat = 2 from rfl] at hx469_0); replace p469 := eq_true p469; replace q469 := eq_true q469) | (go_at_call 87; (with_reducible refine (ew_solid.calls k (rdOf ByteArray.empty t463 2) false _ A15.out).mono ?_); rintro e w' ⟨rfl, ⟨nd, rfl⟩⟩))
         go_meet
         case rel => exact ⟨_, (true), (by first | rfl | (simp; done) | (simp [*]; done) | (simp [nil_ne]; done) | (simp [u8_w, i64w_]; done) | (simp [size_lit]; done) | (simp; unfold wrap64; omega)), H', ⟨by first | omega | exact Nat.le_refl _⟩, ⟨by (with_reducible repeat (first | apply Kd.R_alloc | apply Kd.R_drewN | apply Kd.R_drew)); exact HO465.out⟩, ⟨bw⟩⟩
       ·rw [if_neg c14] at H
        exact absurd H (by simp)
      ·replace c13 := Bool.eq_false_iff.mpr c13
       subst c13
       have H1 : (ew_word.j0 k t463 true) = some (r1, r2) := by rw [if_neg (show ¬ (false = true) by decide)] at H; exact H
       clear H
       have H := H1
       clear H1
       have H' := Aside0.mk H
       clear H
       obtain ⟨Ao21, co21, eo21⟩ := Kd.R_slice HO465.out
       subst eo21
       have p466 : 0 ≤ (0 : Int) := (by omega)
       have q466 : 0 < (t463.length : Int) := od
       obtain ⟨ad466, e466, hx466_0⟩ := Kd.at_string (Kd.R_reads' HO465.out).2.2 0 p466 q466
       cases e466
       have qi466 : (0 < t463.length) = True := eq_true (by omega)
       (try rw [show ((0 : Int)).toNat = 0 from rfl] at hx466_0)
       (try rw [Addr.add_zero'] at hx466_0)
       replace p466 := eq_true p466
       replace q466 := eq_true q466
       have p467 : 0 ≤ (0 : Int) := (by omega)
       have q467 : 0 < (t463.length : Int) := od
       obtain ⟨ad467, e467, hx467_0⟩ := Kd.at_string (Kd.R_reads' HO465.out).2.2 0 p467 q467
       obtain rfl : ad466 = ad467 := (by injection e467)
       have qi467 : (0 < t463.length) = True := eq_true (by omega)
       (try rw [show ((0 : Int)).toNat = 0 from rfl] at hx467_0)
       (try rw [Addr.add_zero'] at hx467_0)
       replace p467 := eq_true p467
       replace q467 := eq_true q467
       go_wp2_with (first | (go_at_call 87; (with_reducible refine (ew_solid.calls k (rdOf ByteArray.empty t463 0) false _ A12.out).mono ?_); rintro e w' ⟨rfl, ⟨nd, rfl⟩⟩))
       go_meet
       case rel => exact ⟨_, (true), (by first | rfl | (simp; done) | (simp [*]; done) | (simp [nil_ne]; done) | (simp [u8_w, i64w_]; done) | (simp [size_lit]; done) | (simp; unfold wrap64; omega)), H', ⟨by first | omega | exact Nat.le_refl _⟩, ⟨by (with_reducible repeat (first | apply Kd.R_alloc | apply Kd.R_drewN | apply Kd.R_drew)); exact HO465.out⟩, ⟨bw⟩⟩
    ·rw [if_neg c9] at H
     exact absurd H (by simp)
  case rest =>
   clear HC5
   try clear c1
   try clear p2
   try clear c3
   try clear c4
   try clear p4
   try clear q4
   try clear hx4
   try clear qi4
   try clear c7
   try clear c7b0
   try clear c7b1
   try clear c8
   try clear c9
   try clear c9b0
   try clear c9b1
   try clear c10
   try clear c10b0
   try clear c10b1
   try clear c13
   try clear c14
   try clear c14b0
   try clear c14b1
   try clear c16
   try clear c17
   try clear c17b0
   try clear c17b1
   try clear hx466_0
   try clear hx467_0
   try clear hx469_0
   try clear hx471_0
   try clear p466
   try clear p467
   try clear p469
   try clear p471
   try clear q466
   try clear q467
   try clear q469
   try clear q471
   obtain ⟨kq, x48_4, rfl, HA, HJ4, HO_6, HB⟩ := hcut
   cases kq with
   | zero => exact absurd HA.out (by simp [ew_word.j0])
   | succ kj4 =>
    have H := HA.out
    clear HA
    simp only [ew_word.j0] at H
    by_cases c22 : x48_4 = true
    ·subst c22
     have H1 : (some ((⟨#[]⟩ : ByteArray), 0)) = some (r1, r2) := by rw [if_pos rfl] at H; exact H
     clear H
     have H := H1
     clear H1
     simp only [Option.some.injEq, Prod.mk.injEq] at H
     obtain ⟨rfl, rfl⟩ := H
     go_wp2
     go_ret2
     exact ⟨by first | rfl | (simp [errW_none, errW_some] <;> rfl) | (simp [*, errW_none, errW_some] <;> rfl), bw⟩
    ·replace c22 := Bool.eq_false_iff.mpr c22
     subst c22
     have H1 : (if 0 < (t463.length : Int) then (if 1 < (t463.length : Int) then (if 2 < (t463.length : Int) then ((ew_octets.f kj4 (rdOf ByteArray.empty t463 1) (rdOf ByteArray.empty t463 2)).bind fun bt478 => (if (wrap64 ((wrap64 ((wrap64 ((wrap64 ((wrap64 ((wrap64 (2 + ((rdOf ByteArray.empty t463 0).size : Int))) + 1)) + ((rdOf ByteArray.empty t463 1).size : Int))) + 1)) + ((rdOf ByteArray.empty t463 2).size : Int))) + 2)) > 75 then (ew_word.j1 kj4 t463 (wrap64 ((wrap64 ((wrap64 ((wrap64 ((wrap64 ((wrap64 (2 + ((rdOf ByteArray.empty t463 0).size : Int))) + 1)) + ((rdOf ByteArray.empty t463 1).size : Int))) + 1)) + ((rdOf ByteArray.empty t463 2).size : Int))) + 2)) bt478.1 true) else (ew_word.j1 kj4 t463 (wrap64 ((wrap64 ((wrap64 ((wrap64 ((wrap64 ((wrap64 (2 + ((rdOf ByteArray.empty t463 0).size : Int))) + 1)) + ((rdOf ByteArray.empty t463 1).size : Int))) + 1)) + ((rdOf ByteArray.empty t463 2).size : Int))) + 2)) bt478.1 (!bt478.2)))) else (none)) else (none)) else (none)) = some (r1, r2) := by rw [if_neg (show ¬ (false = true) by decide)] at H; exact H
     clear H
     have H := H1
     clear H1
     by_cases c23 : 0 < (t463.length : Int)
     ·rw [if_pos c23] at H
      have c23b0 : decide (0 < (t463.length : Int)) = true := decide_eq_true c23
      have c23b1 : decide (0 < t463.length) = true := decide_eq_true (by omega)
      clear c23
      by_cases c24 : 1 < (t463.length : Int)
      ·rw [if_pos c24] at H
       have c24b0 : decide (1 < (t463.length : Int)) = true := decide_eq_true c24
       have c24b1 : decide (1 < t463.length) = true := decide_eq_true (by omega)
       clear c24
       by_cases c25 : 2 < (t463.length : Int)
       ·rw [if_pos c25] at H
        have c25b0 : decide (2 < (t463.length : Int)) = true := decide_eq_true c25
        have c25b1 : decide (2 < t463.length) = true := decide_eq_true (by omega)
        clear c25
        replace H := Option.bind_eq_some_iff.mp H
        obtain ⟨⟨t478, t479⟩, A260, H⟩ := H
        replace H : (if (wrap64 ((wrap64 ((wrap64 ((wrap64 ((wrap64 ((wrap64 (2 + ((rdOf ByteArray.empty t463 0).size : Int))) + 1)) + ((rdOf ByteArray.empty t463 1).size : Int))) + 1)) + ((rdOf ByteArray.empty t463 2).size : Int))) + 2)) > 75 then (ew_word.j1 kj4 t463 (wrap64 ((wrap64 ((wrap64 ((wrap64 ((wrap64 ((wrap64 (2 + ((rdOf ByteArray.empty t463 0).size : Int))) + 1)) + ((rdOf ByteArray.empty t463 1).size : Int))) + 1)) + ((rdOf ByteArray.empty t463 2).size : Int))) + 2)) t478 true) else (ew_word.j1 kj4 t463 (wrap64 ((wrap64 ((wrap64 ((wrap64 ((wrap64 ((wrap64 (2 + ((rdOf ByteArray.empty t463 0).size : Int))) + 1)) + ((rdOf ByteArray.empty t463 1).size : Int))) + 1)) + ((rdOf ByteArray.empty t463 2).size : Int))) + 2)) t478 (!t479))) = some (r1, r2) := H
        have A26 := Aside0.mk A260
        clear A260
        have HC27 := Aside0.mk H
        clear H
        try go_wp2
        have n0_ := Aside0.mk (Kd.R_drew HO_6.out)
        have n1_ := Aside0.mk (below_drew1 HB.out)
        clear HO_6
        clear HB
        have HO_6 := n0_
        have HB := n1_
        clear n0_ n1_
        obtain ⟨Ao29, co29, eo29⟩ := Kd.R_slice HO_6.out
        (first | subst eo29 | (injection eo29 with f1_ f2_ f3_; have f4_ := f1_.symm; have f5_ := f3_.symm; clear f1_ f2_ f3_; subst f4_; subst f5_))
        have p473 : 0 ≤ (0 : Int) := (by omega)
        have q473 : 0 < (t463.length : Int) := od
        obtain ⟨ad473, e473, hx473_0⟩ := Kd.at_string (Kd.R_reads' HO_6.out).2.2 0 p473 q473
        cases e473
        have qi473 : (0 < t463.length) = True := eq_true (by omega)
        (try rw [show ((0 : Int)).toNat = 0 from rfl] at hx473_0)
        (try rw [Addr.add_zero'] at hx473_0)
        replace p473 := eq_true p473
        replace q473 := eq_true q473
        have p474 : 0 ≤ (1 : Int) := (by omega)
        have q474 : 1 < (t463.length : Int) := od
        obtain ⟨ad474, e474, hx474_0⟩ := Kd.at_string (Kd.R_reads' HO_6.out).2.2 1 p474 q474
        obtain rfl : ad473 = ad474 := (by injection e474)
        (try simp only [show (1 : Int).toNat = 1 from rfl, Nat.reduceMul, Nat.reduceEqDiff, Go.Addr.add, ↓reduceIte] at hx474_0)
        have qi474 : (1 < t463.length) = True := eq_true (by omega)
        (try rw [show ((1 : Int)).toNat = 1 from rfl] at hx474_0)
        replace p474 := eq_true p474
        replace q474 := eq_true q474
        have p475 : 0 ≤ (2 : Int) := (by omega)
        have q475 : 2 < (t463.length : Int) := od
        obtain ⟨ad475, e475, hx475_0⟩ := Kd.at_string (Kd.R_reads' HO_6.out).2.2 2 p475 q475
        obtain rfl : ad473 = ad475 := (by injection e475)
        (try simp only [show (2 : Int).toNat = 2 from rfl, Nat.reduceMul, Nat.reduceEqDiff, Go.Addr.add, ↓reduceIte] at hx475_0)
        have qi475 : (2 < t463.length) = True := eq_true (by omega)
        (try rw [show ((2 : Int)).toNat = 2 from rfl] at hx475_0)
        replace p475 := eq_true p475
        replace q475 := eq_true q475
        refine start_ (n := 19) (S := fun w' => w'.cell? ad473 = some (.string (rdOf ByteArray.empty t463 0)) ∧ w'.cell? ⟨ad473.block, ad473.off + 1, none⟩ = some (.string (rdOf ByteArray.empty t463 1)) ∧ w'.cell? ⟨ad473.block, ad473.off + 2, none⟩ = some (.string (rdOf ByteArray.empty t463 2))) (ds := []) #[false, false, false, false, false, false, false, false, false, false, false, false, false, false, false, false, false, false, false] (by kernel_rfl) rfl rfl ⟨hx473_0, hx474_0, hx475_0⟩ (fun hHeld => ?_); refine with_tabW ew_word.tab7 ew_word.bits7 (fun HT_ HW_ => ?_)
        generalize wc.drew = w28 at HO_6 HB hx473_0 hx474_0 hx475_0 hHeld ⊢
        refine pure_ (i := 0) (N := some 49) (v := ?_) (a' := ?_) (bitsL 19 1) rfl rfl (any_of HT_.out (by kernel_rfl)) (fun _ _ _ h => h) (Or.inl ⟨by rfl, ?_⟩) ?_ ?_
        rotate_left
        ·intro w'
         go_simp
         with_reducible rfl
        rotate_left
        ·simp only [Act.put, List.setIfInBounds_toArray, List.set_cons_zero, List.set_cons_succ, i64_w, i32_w]
         rfl
        refine pure_ (i := 1) (N := some 50) (v := ?_) (a' := ?_) (bitsL 19 3) rfl rfl (any_of HT_.out (by kernel_rfl)) (fun _ _ _ h => h) (Or.inl ⟨by rfl, ?_⟩) ?_ ?_
        rotate_left
        ·intro w'
         go_simp
         with_reducible rfl
        rotate_left
        ·simp only [Act.put, List.setIfInBounds_toArray, List.set_cons_zero, List.set_cons_succ, i64_w, i32_w]
         rfl
        refine pure_ (i := 6) (N := some 55) (v := ?_) (a' := ?_) (bitsL 19 67) rfl rfl (any_of HT_.out (by kernel_rfl)) (fun _ _ _ h => h) (Or.inl ⟨by rfl, ?_⟩) ?_ ?_
        rotate_left
        ·intro w'
         go_simp
         with_reducible rfl
        rotate_left
        ·simp only [Act.put, List.setIfInBounds_toArray, List.set_cons_zero, List.set_cons_succ, i64_w, i32_w]
         rfl
        refine pure_ (i := 7) (N := some 56) (v := ?_) (a' := ?_) (bitsL 19 195) rfl rfl (any_of HT_.out (by kernel_rfl)) (fun _ _ _ h => h) (Or.inl ⟨by rfl, ?_⟩) ?_ ?_
        rotate_left
        ·intro w'
         go_simp
         with_reducible rfl
        rotate_left
        ·simp only [Act.put, List.setIfInBounds_toArray, List.set_cons_zero, List.set_cons_succ, i64_w, i32_w]
         rfl
        refine pure_ (i := 12) (N := some 61) (v := ?_) (a' := ?_) (bitsL 19 4291) rfl rfl (any_of HT_.out (by kernel_rfl)) (fun _ _ _ h => h) (Or.inl ⟨by rfl, ?_⟩) ?_ ?_
        rotate_left
        ·intro w'
         go_simp
         with_reducible rfl
        rotate_left
        ·simp only [Act.put, List.setIfInBounds_toArray, List.set_cons_zero, List.set_cons_succ, i64_w, i32_w]
         rfl
        refine pure_ (i := 13) (N := some 62) (v := ?_) (a' := ?_) (bitsL 19 12483) rfl rfl (any_of HT_.out (by kernel_rfl)) (fun _ _ _ h => h) (Or.inl ⟨by rfl, ?_⟩) ?_ ?_
        rotate_left
        ·intro w'
         go_simp
         with_reducible rfl
        rotate_left
        ·simp only [Act.put, List.setIfInBounds_toArray, List.set_cons_zero, List.set_cons_succ, i64_w, i32_w]
         rfl
        refine take_ (i := 2) (N := some 51) (v := ?_) (a' := ?_) (bitsL 19 12487) rfl rfl (take_ofW HT_.out HW_.out (by kernel_rfl)) (fun _ _ _ h => h) (Or.inl ⟨by rfl, ?_⟩) hHeld ?_ ?_
        rotate_left
        ·rintro w' ⟨s0, s1, s2⟩
         go_simp
         with_reducible rfl
        rotate_left
        ·simp only [Act.put, List.setIfInBounds_toArray, List.set_cons_zero, List.set_cons_succ, i64_w, i32_w]
         rfl
        refine pure_ (i := 3) (N := some 52) (v := ?_) (a' := ?_) (bitsL 19 12495) rfl rfl (any_of HT_.out (by kernel_rfl)) (fun _ _ _ h => h) (Or.inl ⟨by rfl, ?_⟩) ?_ ?_
        rotate_left
        ·intro w'
         go_simp
         with_reducible rfl
        rotate_left
        ·simp only [Act.put, List.setIfInBounds_toArray, List.set_cons_zero, List.set_cons_succ, i64_w, i32_w]
         rfl
        refine pure_ (i := 4) (N := some 53) (v := ?_) (a' := ?_) (bitsL 19 12511) rfl rfl (any_of HT_.out (by kernel_rfl)) (fun _ _ _ h => h) (Or.inl ⟨by rfl, ?_⟩) ?_ ?_
        rotate_left
        ·intro w'
         go_simp
         with_reducible rfl
        rotate_left
        ·simp only [Act.put, List.setIfInBounds_toArray, List.set_cons_zero, List.set_cons_succ, i64_w, i32_w]
         rfl
        refine pure_ (i := 5) (N := some 54) (v := ?_) (a' := ?_) (bitsL 19 12543) rfl rfl (any_of HT_.out (by kernel_rfl)) (fun _ _ _ h => h) (Or.inl ⟨by rfl, ?_⟩) ?_ ?_
        rotate_left
        ·intro w'
         go_simp
         with_reducible rfl
        rotate_left
        ·simp only [Act.put, List.setIfInBounds_toArray, List.set_cons_zero, List.set_cons_succ, i64_w, i32_w]
         rfl
        refine take_ (i := 8) (N := some 57) (v := ?_) (a' := ?_) (bitsL 19 12799) rfl rfl (take_ofW HT_.out HW_.out (by kernel_rfl)) (fun _ _ _ h => h) (Or.inl ⟨by rfl, ?_⟩) hHeld ?_ ?_
        rotate_left
        ·rintro w' ⟨s0, s1, s2⟩
         go_simp
         with_reducible rfl
        rotate_left
        ·simp only [Act.put, List.setIfInBounds_toArray, List.set_cons_zero, List.set_cons_succ, i64_w, i32_w]
         rfl
        refine pure_ (i := 9) (N := some 58) (v := ?_) (a' := ?_) (bitsL 19 13311) rfl rfl (any_of HT_.out (by kernel_rfl)) (fun _ _ _ h => h) (Or.inl ⟨by rfl, ?_⟩) ?_ ?_
        rotate_left
        ·intro w'
         go_simp
         with_reducible rfl
        rotate_left
        ·simp only [Act.put, List.setIfInBounds_toArray, List.set_cons_zero, List.set_cons_succ, i64_w, i32_w]
         rfl
        refine pure_ (i := 10) (N := some 59) (v := ?_) (a' := ?_) (bitsL 19 14335) rfl rfl (any_of HT_.out (by kernel_rfl)) (fun _ _ _ h => h) (Or.inl ⟨by rfl, ?_⟩) ?_ ?_
        rotate_left
        ·intro w'
         go_simp
         with_reducible rfl
        rotate_left
        ·simp only [Act.put, List.setIfInBounds_toArray, List.set_cons_zero, List.set_cons_succ, i64_w, i32_w]
         rfl
        refine pure_ (i := 11) (N := some 60) (v := ?_) (a' := ?_) (bitsL 19 16383) rfl rfl (any_of HT_.out (by kernel_rfl)) (fun _ _ _ h => h) (Or.inl ⟨by rfl, ?_⟩) ?_ ?_
        rotate_left
        ·intro w'
         go_simp
         with_reducible rfl
        rotate_left
        ·simp only [Act.put, List.setIfInBounds_toArray, List.set_cons_zero, List.set_cons_succ, i64_w, i32_w]
         rfl
        refine take_ (i := 14) (N := some 63) (v := ?_) (a' := ?_) (bitsL 19 32767) rfl rfl (take_ofW HT_.out HW_.out (by kernel_rfl)) (fun _ _ _ h => h) (Or.inl ⟨by rfl, ?_⟩) hHeld ?_ ?_
        rotate_left
        ·rintro w' ⟨s0, s1, s2⟩
         go_simp
         with_reducible rfl
        rotate_left
        ·simp only [Act.put, List.setIfInBounds_toArray, List.set_cons_zero, List.set_cons_succ, i64_w, i32_w]
         rfl
        refine pure_ (i := 15) (N := some 64) (v := ?_) (a' := ?_) (bitsL 19 65535) rfl rfl (any_of HT_.out (by kernel_rfl)) (fun _ _ _ h => h) (Or.inl ⟨by rfl, ?_⟩) ?_ ?_
        rotate_left
        ·intro w'
         go_simp
         with_reducible rfl
        rotate_left
        ·simp only [Act.put, List.setIfInBounds_toArray, List.set_cons_zero, List.set_cons_succ, i64_w, i32_w]
         rfl
        refine pure_ (i := 16) (N := some 65) (v := ?_) (a' := ?_) (bitsL 19 131071) rfl rfl (any_of HT_.out (by kernel_rfl)) (fun _ _ _ h => h) (Or.inl ⟨by rfl, ?_⟩) ?_ ?_
        rotate_left
        ·intro w'
         go_simp
         with_reducible rfl
        rotate_left
        ·simp only [Act.put, List.setIfInBounds_toArray, List.set_cons_zero, List.set_cons_succ, i64_w, i32_w]
         rfl
        refine pure_ (i := 17) (N := some 66) (v := ?_) (a' := ?_) (bitsL 19 262143) rfl rfl (any_of HT_.out (by kernel_rfl)) (fun _ _ _ h => h) (Or.inl ⟨by rfl, ?_⟩) ?_ ?_
        rotate_left
        ·intro w'
         go_simp
         with_reducible rfl
        rotate_left
        ·simp only [Act.put, List.setIfInBounds_toArray, List.set_cons_zero, List.set_cons_succ, i64_w, i32_w]
         rfl
        refine pure_ (i := 18) (N := some 7) (v := ?_) (a' := ?_) (bitsL 19 524287) rfl rfl (any_of HT_.out (by kernel_rfl)) (fun _ _ _ h => h) (Or.inl ⟨by rfl, ?_⟩) ?_ ?_
        rotate_left
        ·intro w'
         go_simp
         with_reducible rfl
        rotate_left
        ·simp only [Act.put, List.setIfInBounds_toArray, List.set_cons_zero, List.set_cons_succ, i64_w, i32_w]
         rfl
        refine done_ (done_of HT_.out (by kernel_rfl)) ?_
        try go_wp2
        have n0_ := Aside0.mk (Kd.R_drew HO_6.out)
        have n1_ := Aside0.mk (below_drew1 HB.out)
        clear HO_6
        clear HB
        have HO_6 := n0_
        have HB := n1_
        clear n0_ n1_
        have p476 : 0 ≤ (1 : Int) := (by omega)
        have q476 : 1 < (t463.length : Int) := od
        obtain ⟨ad476, e476, hx476_0⟩ := Kd.at_string (Kd.R_reads' HO_6.out).2.2 1 p476 q476
        obtain rfl : ad473 = ad476 := (by injection e476)
        (try simp only [show (1 : Int).toNat = 1 from rfl, Nat.reduceMul, Nat.reduceEqDiff, Go.Addr.add, ↓reduceIte] at hx476_0)
        have qi476 : (1 < t463.length) = True := eq_true (by omega)
        (try rw [show ((1 : Int)).toNat = 1 from rfl] at hx476_0)
        replace p476 := eq_true p476
        replace q476 := eq_true q476
        have p477 : 0 ≤ (2 : Int) := (by omega)
        have q477 : 2 < (t463.length : Int) := od
        obtain ⟨ad477, e477, hx477_0⟩ := Kd.at_string (Kd.R_reads' HO_6.out).2.2 2 p477 q477
        obtain rfl : ad473 = ad477 := (by injection e477)
        (try simp only [show (2 : Int).toNat = 2 from rfl, Nat.reduceMul, Nat.reduceEqDiff, Go.Addr.add, ↓reduceIte] at hx477_0)
        have qi477 : (2 < t463.length) = True := eq_true (by omega)
        (try rw [show ((2 : Int)).toNat = 2 from rfl] at hx477_0)
        replace p477 := eq_true p477
        replace q477 := eq_true q477
        refine start_ (n := 12) (S := fun w' => w'.cell? ⟨ad473.block, ad473.off + 1, none⟩ = some (.string (rdOf ByteArray.empty t463 1)) ∧ w'.cell? ⟨ad473.block, ad473.off + 2, none⟩ = some (.string (rdOf ByteArray.empty t463 2))) (ds := []) #[false, false, false, false, false, false, false, false, false, false, false, false] (by kernel_rfl) rfl rfl ⟨hx476_0, hx477_0⟩ (fun hHeld => ?_); refine with_tabW ew_word.tab8 ew_word.bits8 (fun HT_ HW_ => ?_)
        generalize w28.drew = w30 at HO_6 HB hx476_0 hx477_0 hHeld ⊢
        refine pure_ (i := 0) (N := some 68) (v := ?_) (a' := ?_) (bitsL 12 1) rfl rfl (any_of HT_.out (by kernel_rfl)) (fun _ _ _ h => h) (Or.inl ⟨by rfl, ?_⟩) ?_ ?_
        rotate_left
        ·intro w'
         go_simp
         with_reducible rfl
        rotate_left
        ·simp only [Act.put, List.setIfInBounds_toArray, List.set_cons_zero, List.set_cons_succ, i64_w, i32_w]
         rfl
        refine pure_ (i := 1) (N := some 69) (v := ?_) (a' := ?_) (bitsL 12 3) rfl rfl (any_of HT_.out (by kernel_rfl)) (fun _ _ _ h => h) (Or.inl ⟨by rfl, ?_⟩) ?_ ?_
        rotate_left
        ·intro w'
         go_simp
         with_reducible rfl
        rotate_left
        ·simp only [Act.put, List.setIfInBounds_toArray, List.set_cons_zero, List.set_cons_succ, i64_w, i32_w]
         rfl
        refine pure_ (i := 3) (N := some 71) (v := ?_) (a' := ?_) (bitsL 12 11) rfl rfl (any_of HT_.out (by kernel_rfl)) (fun _ _ _ h => h) (Or.inl ⟨by rfl, ?_⟩) ?_ ?_
        rotate_left
        ·intro w'
         go_simp
         with_reducible rfl
        rotate_left
        ·simp only [Act.put, List.setIfInBounds_toArray, List.set_cons_zero, List.set_cons_succ, i64_w, i32_w]
         rfl
        refine pure_ (i := 4) (N := some 72) (v := ?_) (a' := ?_) (bitsL 12 27) rfl rfl (any_of HT_.out (by kernel_rfl)) (fun _ _ _ h => h) (Or.inl ⟨by rfl, ?_⟩) ?_ ?_
        rotate_left
        ·intro w'
         go_simp
         with_reducible rfl
        rotate_left
        ·simp only [Act.put, List.setIfInBounds_toArray, List.set_cons_zero, List.set_cons_succ, i64_w, i32_w]
         rfl
        refine take_ (i := 2) (N := some 70) (v := ?_) (a' := ?_) (bitsL 12 31) rfl rfl (take_ofW HT_.out HW_.out (by kernel_rfl)) (fun _ _ _ h => h) (Or.inl ⟨by rfl, ?_⟩) hHeld ?_ ?_
        rotate_left
        ·rintro w' ⟨s0, s1⟩
         go_simp
         with_reducible rfl
        rotate_left
        ·simp only [Act.put, List.setIfInBounds_toArray, List.set_cons_zero, List.set_cons_succ, i64_w, i32_w]
         rfl
        refine take_ (i := 5) (N := some 73) (v := ?_) (a' := ?_) (bitsL 12 63) rfl rfl (take_ofW HT_.out HW_.out (by kernel_rfl)) (fun _ _ _ h => h) (Or.inl ⟨by rfl, ?_⟩) hHeld ?_ ?_
        rotate_left
        ·rintro w' ⟨s0, s1⟩
         go_simp
         with_reducible rfl
        rotate_left
        ·simp only [Act.put, List.setIfInBounds_toArray, List.set_cons_zero, List.set_cons_succ, i64_w, i32_w]
         rfl
        refine one_ (i := 6) (N := some 74) (bitsL 12 127) rfl rfl (one_of HT_.out (by kernel_rfl)) (by decide) (fun K hK => ?_)
        refine goes_ Tryd.func88 (by kernel_rfl) rfl #[.string (rdOf ByteArray.empty t463 1), .string (rdOf ByteArray.empty t463 2)] (by rfl) rfl rfl am ?_
        with_reducible refine (ew_octets.calls kj4 (rdOf ByteArray.empty t463 1) (rdOf ByteArray.empty t463 2) t478 t479 _ A26.out).mono ?_
        rintro e w31 ⟨rfl, hb⟩
        have HS0_ := (hb.cell (World.block_lt_of_cell? _ _ (hHeld.1))).trans (hHeld.1)
        have HS1_ := (hb.cell (World.block_lt_of_cell? _ _ (hHeld.2))).trans (hHeld.2)
        refine ⟨_, rfl, ?_⟩
        have n0_ := Aside0.mk (Kd.R_below (by (with_reducible repeat (first | apply Kd.R_alloc | apply Kd.R_drewN | apply Kd.R_drew)); exact HO_6.out) hb)
        have n1_ := Aside0.mk (below_step bw hb)
        clear HO_6
        clear HB
        have HO_6 := n0_
        have HB := n1_
        clear n0_ n1_
        (try clear hb)
        (try clear hb2)
        (try clear hk)
        (try clear hi)
        refine hK.out _ _ ⟨HS0_, HS1_⟩ (fun hHeld => ?_)
        clear hK K
        refine norm_ (a' := ?_) ?_ ?_
        rotate_left
        ·show Act.put _ (some 74) _ = _
         simp only [Act.put, List.setIfInBounds_toArray, List.set_cons_zero, List.set_cons_succ, i64_w, i32_w]
         rfl
        refine pure_ (i := 7) (N := some 67) (v := ?_) (a' := ?_) (bitsL 12 255) rfl rfl (any_of HT_.out (by kernel_rfl)) (fun _ _ _ h => h) (Or.inl ⟨by rfl, ?_⟩) ?_ ?_
        rotate_left
        ·intro w'
         go_simp
         with_reducible rfl
        rotate_left
        ·simp only [Act.put, List.setIfInBounds_toArray, List.set_cons_zero, List.set_cons_succ, i64_w, i32_w]
         rfl
        refine pure_ (i := 8) (N := some 75) (v := ?_) (a' := ?_) (bitsL 12 511) rfl rfl (any_of HT_.out (by kernel_rfl)) (fun _ _ _ h => h) (Or.inl ⟨by rfl, ?_⟩) ?_ ?_
        rotate_left
        ·intro w'
         go_simp
         with_reducible rfl
        rotate_left
        ·simp only [Act.put, List.setIfInBounds_toArray, List.set_cons_zero, List.set_cons_succ, i64_w, i32_w]
         rfl
        refine pure_ (i := 9) (N := some 76) (v := ?_) (a' := ?_) (bitsL 12 1023) rfl rfl (any_of HT_.out (by kernel_rfl)) (fun _ _ _ h => h) (Or.inl ⟨by rfl, ?_⟩) ?_ ?_
        rotate_left
        ·intro w'
         go_simp
         with_reducible rfl
        rotate_left
        ·simp only [Act.put, List.setIfInBounds_toArray, List.set_cons_zero, List.set_cons_succ, i64_w, i32_w]
         rfl
        refine pure_ (i := 10) (N := some 8) (v := ?_) (a' := ?_) (bitsL 12 2047) rfl rfl (any_of HT_.out (by kernel_rfl)) (fun _ _ _ h => h) (Or.inl ⟨by rfl, ?_⟩) ?_ ?_
        rotate_left
        ·intro w'
         go_simp
         with_reducible rfl
        rotate_left
        ·simp only [Act.put, List.setIfInBounds_toArray, List.set_cons_zero, List.set_cons_succ, i64_w, i32_w]
         rfl
        refine pure_ (i := 11) (N := some 5) (v := ?_) (a' := ?_) (bitsL 12 4095) rfl rfl (any_of HT_.out (by kernel_rfl)) (fun _ _ _ h => h) (Or.inl ⟨by rfl, ?_⟩) ?_ ?_
        rotate_left
        ·intro w'
         go_simp
         with_reducible rfl
        rotate_left
        ·simp only [Act.put, List.setIfInBounds_toArray, List.set_cons_zero, List.set_cons_succ, i64_w, i32_w]
         rfl
        refine done_ (done_of HT_.out (by kernel_rfl)) ?_
        go_upto_region 9 with (fail)
        go_cut [82] (fun v82 wc => ∃ (kq : Nat) (x82_26 : Bool), v82 = .bool x82_26 ∧ Aside0 (ew_word.j1 kq t463 (wrap64 ((wrap64 ((wrap64 ((wrap64 ((wrap64 ((wrap64 (2 + ((rdOf ByteArray.empty t463 0).size : Int))) + 1)) + ((rdOf ByteArray.empty t463 1).size : Int))) + 1)) + ((rdOf ByteArray.empty t463 2).size : Int))) + 2)) t478 x82_26 = some (r1, r2)) ∧ Aside0 (kq ≤ kj4) ∧ Aside0 (Kd.R Kd.string 9 wc w.heap.size (fun _ => True) (.slice (some ad473) t463.length co29) t463) ∧ Aside0 (Below w.heap.size w wc))
        case first =>
         have H := HC27.out
         clear HC27
         by_cases c32 : (wrap64 ((wrap64 ((wrap64 ((wrap64 ((wrap64 ((wrap64 (2 + ((rdOf ByteArray.empty t463 0).size : Int))) + 1)) + ((rdOf ByteArray.empty t463 1).size : Int))) + 1)) + ((rdOf ByteArray.empty t463 2).size : Int))) + 2)) > 75
         ·rw [if_pos c32] at H
          have c32b0 : decide (75 < (wrap64 ((wrap64 ((wrap64 ((wrap64 ((wrap64 ((wrap64 (2 + ((rdOf ByteArray.empty t463 0).size : Int))) + 1)) + ((rdOf ByteArray.empty t463 1).size : Int))) + 1)) + ((rdOf ByteArray.empty t463 2).size : Int))) + 2))) = true := decide_eq_true c32
          clear c32
          (first | rw [c32b0] | (simp only [i64_w, i32_w]; rw [c32b0]) | skip)
          have H' := Aside0.mk H
          clear H
          go_wp2
          go_meet
          case rel => exact ⟨_, (true), (by first | rfl | (simp; done) | (simp [*]; done) | (simp [nil_ne]; done) | (simp [u8_w, i64w_]; done) | (simp [size_lit]; done) | (simp; unfold wrap64; omega)), H', ⟨by have := HJ4.out; first | omega | exact Nat.le_refl _⟩, ⟨by (with_reducible repeat (first | apply Kd.R_alloc | apply Kd.R_drewN | apply Kd.R_drew)); exact HO_6.out⟩, ⟨bw⟩⟩
         ·rw [if_neg c32] at H
          have c32b0 : decide (75 < (wrap64 ((wrap64 ((wrap64 ((wrap64 ((wrap64 ((wrap64 (2 + ((rdOf ByteArray.empty t463 0).size : Int))) + 1)) + ((rdOf ByteArray.empty t463 1).size : Int))) + 1)) + ((rdOf ByteArray.empty t463 2).size : Int))) + 2))) = false := decide_eq_false c32
          clear c32
          (first | rw [c32b0] | (simp only [i64_w, i32_w]; rw [c32b0]) | skip)
          have H' := Aside0.mk H
          clear H
          go_wp2
          go_meet
          case rel => exact ⟨_, (!t479), (by first | rfl | (simp; done) | (simp [*]; done) | (simp [nil_ne]; done) | (simp [u8_w, i64w_]; done) | (simp [size_lit]; done) | (simp; unfold wrap64; omega)), H', ⟨by have := HJ4.out; first | omega | exact Nat.le_refl _⟩, ⟨by (with_reducible repeat (first | apply Kd.R_alloc | apply Kd.R_drewN | apply Kd.R_drew)); exact HO_6.out⟩, ⟨bw⟩⟩
        case rest =>
         clear HC27
         try clear c1
         try clear c2
         try clear p2
         try clear c3
         try clear c4
         try clear p4
         try clear q4
         try clear hx4
         try clear qi4
         try clear p6
         try clear c7
         try clear c7b0
         try clear c7b1
         try clear c8
         try clear c9
         try clear c9b0
         try clear c9b1
         try clear c10
         try clear c10b0
         try clear c10b1
         try clear c13
         try clear c14
         try clear c14b0
         try clear c14b1
         try clear c16
         try clear c17
         try clear c17b0
         try clear c17b1
         try clear c22
         try clear c23
         try clear c23b0
         try clear c23b1
         try clear c24
         try clear c24b0
         try clear c24b1
         try clear c25
         try clear c25b0
         try clear c25b1
         try clear c32
         try clear c32b0
         try clear hx466_0
         try clear hx467_0
         try clear hx469_0
         try clear hx471_0
         try clear hx473_0
         try clear hx474_0
         try clear hx475_0
         try clear hx476_0
         try clear hx477_0
         try clear p2
         try clear p4
         try clear p466
         try clear p467
         try clear p469
         try clear p471
         try clear p473
         try clear p474
         try clear p475
         try clear p476
         try clear p477
         try clear q4
         try clear q466
         try clear q467
         try clear q469
         try clear q471
         try clear q473
         try clear q474
         try clear q475
         try clear q476
         try clear q477
         obtain ⟨kq, x82_26, rfl, HA, HJ26, HO_6, HB⟩ := hcut
         cases kq with
         | zero => exact absurd HA.out (by simp [ew_word.j1])
         | succ kj26 =>
          have H := HA.out
          clear HA
          simp only [ew_word.j1] at H
          by_cases c33 : x82_26 = true
          ·subst c33
           have H1 : (some ((⟨#[]⟩ : ByteArray), 0)) = some (r1, r2) := by rw [if_pos rfl] at H; exact H
           clear H
           have H := H1
           clear H1
           simp only [Option.some.injEq, Prod.mk.injEq] at H
           obtain ⟨rfl, rfl⟩ := H
           go_wp2
           go_ret2
           exact ⟨by first | rfl | (simp [errW_none, errW_some] <;> rfl) | (simp [*, errW_none, errW_some] <;> rfl), bw⟩
          ·replace c33 := Bool.eq_false_iff.mpr c33
           subst c33
           have H1 : (if 0 < (t463.length : Int) then ((ew_signs.f (rdOf ByteArray.empty t463 0) t478).bind fun bt481 => (if bt481.2 = true then (some (bt481.1, (wrap64 ((wrap64 ((wrap64 ((wrap64 ((wrap64 ((wrap64 (2 + ((rdOf ByteArray.empty t463 0).size : Int))) + 1)) + ((rdOf ByteArray.empty t463 1).size : Int))) + 1)) + ((rdOf ByteArray.empty t463 2).size : Int))) + 2)))) else (some ((⟨#[]⟩ : ByteArray), 0)))) else (none)) = some (r1, r2) := by rw [if_neg (show ¬ (false = true) by decide)] at H; exact H
           clear H
           have H := H1
           clear H1
           by_cases c34 : 0 < (t463.length : Int)
           ·rw [if_pos c34] at H
            have c34b0 : decide (0 < (t463.length : Int)) = true := decide_eq_true c34
            have c34b1 : decide (0 < t463.length) = true := decide_eq_true (by omega)
            clear c34
            replace H := Option.bind_eq_some_iff.mp H
            obtain ⟨⟨t481, t482⟩, A350, H⟩ := H
            replace H : (if t482 = true then (some (t481, (wrap64 ((wrap64 ((wrap64 ((wrap64 ((wrap64 ((wrap64 (2 + ((rdOf ByteArray.empty t463 0).size : Int))) + 1)) + ((rdOf ByteArray.empty t463 1).size : Int))) + 1)) + ((rdOf ByteArray.empty t463 2).size : Int))) + 2)))) else (some ((⟨#[]⟩ : ByteArray), 0))) = some (r1, r2) := H
            have A35 := Aside0.mk A350
            clear A350
            by_cases c36 : t482 = true
            ·subst c36
             have H1 : (some (t481, (wrap64 ((wrap64 ((wrap64 ((wrap64 ((wrap64 ((wrap64 (2 + ((rdOf ByteArray.empty t463 0).size : Int))) + 1)) + ((rdOf ByteArray.empty t463 1).size : Int))) + 1)) + ((rdOf ByteArray.empty t463 2).size : Int))) + 2)))) = some (r1, r2) := by rw [if_pos rfl] at H; exact H
             clear H
             have H := H1
             clear H1
             simp only [Option.some.injEq, Prod.mk.injEq] at H
             obtain ⟨rfl, rfl⟩ := H
             have p480 : 0 ≤ (0 : Int) := (by omega)
             have q480 : 0 < (t463.length : Int) := od
             obtain ⟨ad480, e480, hx480_0⟩ := Kd.at_string (Kd.R_reads' HO_6.out).2.2 0 p480 q480
             obtain rfl : ad473 = ad480 := (by injection e480)
             have qi480 : (0 < t463.length) = True := eq_true (by omega)
             (try rw [show ((0 : Int)).toNat = 0 from rfl] at hx480_0)
             (try rw [Addr.add_zero'] at hx480_0)
             replace p480 := eq_true p480
             replace q480 := eq_true q480
             go_wp2_with (first | ((with_reducible refine gate_callee (f := 89) rfl ?_); refine goesL_ (some 88) rfl rfl Tryd.func89 (by kernel_rfl) rfl #[.string (rdOf ByteArray.empty t463 0), .string t478] rfl am ?_; (with_reducible refine (ew_signs.calls (hG := by first | exact hG | exact Glob.below hG (by first | exact HB.out | (repeat (first | (with_reducible first | exact HB.out | apply below_alloc | apply pw_below_drewN | apply below_drew1) | exact HB.out))) | exact Glob.drawn hG (by repeat (first | exact Drawn0.refl _ | apply Drawn0.step))) (rdOf ByteArray.empty t463 0) t478 t481 true _ A35.out).mono ?_); rintro e w37 ⟨rfl, hb⟩; refine ⟨_, rfl, ?_⟩; have n0_ := Aside0.mk (Kd.R_below (by (with_reducible repeat (first | apply Kd.R_alloc | apply Kd.R_drewN | apply Kd.R_drew)); exact HO_6.out) hb); have n1_ := Aside0.mk (below_step bw hb); clear HO_6; clear HB; have HO_6 := n0_; have HB := n1_; clear n0_ n1_; (try clear hb); (try clear hb2); (try clear hk); (try clear hi)))
             go_ret2
             exact ⟨by first | rfl | (simp [errW_none, errW_some] <;> rfl) | (simp [*, errW_none, errW_some] <;> rfl), bw⟩
            ·replace c36 := Bool.eq_false_iff.mpr c36
             subst c36
             have H1 : (some ((⟨#[]⟩ : ByteArray), 0)) = some (r1, r2) := by rw [if_neg (show ¬ (false = true) by decide)] at H; exact H
             clear H
             have H := H1
             clear H1
             simp only [Option.some.injEq, Prod.mk.injEq] at H
             obtain ⟨rfl, rfl⟩ := H
             have p480 : 0 ≤ (0 : Int) := (by omega)
             have q480 : 0 < (t463.length : Int) := od
             obtain ⟨ad480, e480, hx480_0⟩ := Kd.at_string (Kd.R_reads' HO_6.out).2.2 0 p480 q480
             obtain rfl : ad473 = ad480 := (by injection e480)
             have qi480 : (0 < t463.length) = True := eq_true (by omega)
             (try rw [show ((0 : Int)).toNat = 0 from rfl] at hx480_0)
             (try rw [Addr.add_zero'] at hx480_0)
             replace p480 := eq_true p480
             replace q480 := eq_true q480
             go_wp2_with (first | ((with_reducible refine gate_callee (f := 89) rfl ?_); refine goesL_ (some 88) rfl rfl Tryd.func89 (by kernel_rfl) rfl #[.string (rdOf ByteArray.empty t463 0), .string t478] rfl am ?_; (with_reducible refine (ew_signs.calls (hG := by first | exact hG | exact Glob.below hG (by first | exact HB.out | (repeat (first | (with_reducible first | exact HB.out | apply below_alloc | apply pw_below_drewN | apply below_drew1) | exact HB.out))) | exact Glob.drawn hG (by repeat (first | exact Drawn0.refl _ | apply Drawn0.step))) (rdOf ByteArray.empty t463 0) t478 t481 false _ A35.out).mono ?_); rintro e w38 ⟨rfl, hb⟩; refine ⟨_, rfl, ?_⟩; have n0_ := Aside0.mk (Kd.R_below (by (with_reducible repeat (first | apply Kd.R_alloc | apply Kd.R_drewN | apply Kd.R_drew)); exact HO_6.out) hb); have n1_ := Aside0.mk (below_step bw hb); clear HO_6; clear HB; have HO_6 := n0_; have HB := n1_; clear n0_ n1_; (try clear hb); (try clear hb2); (try clear hk); (try clear hi)))
             go_ret2
             exact ⟨by first | rfl | (simp [errW_none, errW_some] <;> rfl) | (simp [*, errW_none, errW_some] <;> rfl), bw⟩
           ·rw [if_neg c34] at H
            exact absurd H (by simp)
       ·rw [if_neg c25] at H
        exact absurd H (by simp)
      ·rw [if_neg c24] at H
       exact absurd H (by simp)
     ·rw [if_neg c23] at H
      exact absurd H (by simp)
 ·replace c3 := Bool.eq_false_iff.mpr c3
  subst c3
  have H1 : (some ((⟨#[]⟩ : ByteArray), 0)) = some (r1, r2) := by rw [if_neg (show ¬ (false = true) by decide)] at H; exact H
  clear H
  have H := H1
  clear H1
  simp only [Option.some.injEq, Prod.mk.injEq] at H
  obtain ⟨rfl, rfl⟩ := H
  go_enter Tryd.func44, Tryd.ntmps44
  go_wp2_with (first | ((with_reducible refine gate_callee (f := 85) rfl ?_); refine goesL_ (some 12) rfl rfl Tryd.func85 (by kernel_rfl) rfl #[.string a0, .string (⟨#[61, 63]⟩ : ByteArray)] rfl am ?_; (with_reducible refine (strings_CutPrefix.calls a0 (⟨#[61, 63]⟩ : ByteArray) t461 false _ A2.out).mono ?_); rintro e w' ⟨rfl, ⟨nd, rfl⟩⟩; refine ⟨_, rfl, ?_⟩))
  go_ret2
  exact ⟨by first | rfl | (simp [errW_none, errW_some] <;> rfl) | (simp [*, errW_none, errW_some] <;> rfl), bw⟩

end Go.Proofs.YtihabmcaplnbcaaDoor.Fn
set_option linter.unusedVariables false
set_option linter.unusedSimpArgs false
namespace Go.Proofs.YtihabmcaplnbcaaDoor.Pl
open Go.RowKit Go.Proofs.YtihabmcaplnbcaaDoorW.PrintWords Go.Proofs.YtihabmcaplnbcaaDoor.Fn

/-! Layers 18, 19: the program's Decode of letters, and its words. -/
def b64Z (c : UInt8) : Int := match b64V c with | none => -1 | some n => (n : Int)
theorem index_is (c : UInt8) : strings_IndexByte.f (⟨#[65, 66, 67, 68, 69, 70, 71, 72, 73, 74, 75, 76, 77, 78, 79, 80, 81, 82, 83, 84, 85, 86, 87, 88, 89, 90, 97, 98, 99, 100, 101, 102, 103, 104, 105, 106, 107, 108, 109, 110, 111, 112, 113, 114, 115, 116, 117, 118, 119, 120, 121, 122, 48, 49, 50, 51, 52, 53, 54, 55, 56, 57, 43, 47]⟩ : ByteArray) (c.toNat : Int) = some (b64Z c) :=
  forall_byte (p := fun c => strings_IndexByte.f (⟨#[65, 66, 67, 68, 69, 70, 71, 72, 73, 74, 75, 76, 77, 78, 79, 80, 81, 82, 83, 84, 85, 86, 87, 88, 89, 90, 97, 98, 99, 100, 101, 102, 103, 104, 105, 106, 107, 108, 109, 110, 111, 112, 113, 114, 115, 116, 117, 118, 119, 120, 121, 122, 48, 49, 50, 51, 52, 53, 54, 55, 56, 57, 43, 47]⟩ : ByteArray) (c.toNat : Int) = some (b64Z c)) (by decide +kernel) c
theorem b64V_lt {c : UInt8} {n : Nat} (h : b64V c = some n) : n < 64 := by
  have := forall_byte (p := fun c => ∀ n, b64V c = some n → n < 64) (by decide +kernel) c
  exact this n h
def resC (B : Bytes) : Option Bytes → ByteArray × Int
  | none => (⟨#[]⟩, 3)
  | some b => if b64P b = B then (str b, 0) else (⟨#[]⟩, 3)
theorem b64_step (h m v : Nat) (hm : m ≤ 6) (hh : v < 2 ^ (m + 8)) : shr .i64 (v : Int) (m : Int) % 256 = ((UInt8.ofNat (v / 2 ^ m)).toNat : Int) ∧ Go.bits .and .i64 (v : Int) (wrap64 ((shl .i64 1 (m : Int)) - 1)) = ((v % 2 ^ m : Nat) : Int) := by
  have hp : 2 ^ m ≤ 64 := Nat.pow_le_pow_right (n := 2) (by decide) hm
  have h8 : 2 ^ (m + 8) = 2 ^ m * 256 := by rw [Nat.pow_add]
  have h0 : 0 < 2 ^ m := Nat.two_pow_pos m
  have hpz : ((2 : Int) ^ m) = ((2 ^ m : Nat) : Int) := by simp
  have hb : min ((m : Int)).toNat IntKind.i64.bits = m := by
    rw [Int.toNat_natCast]
    exact Nat.min_eq_left (Nat.le_trans hm (by decide))
  have hv : v / 2 ^ m < 256 := Nat.div_lt_of_lt_mul (by rw [← h8]; exact hh)
  refine ⟨?_, ?_⟩
  · unfold shr
    rw [hb, hpz]
    have e : (UInt8.ofNat (v / 2 ^ m)).toNat = v / 2 ^ m := by simp; omega
    rw [e]
    omega
  · have e : wrap64 ((shl .i64 1 (m : Int)) - 1) = 2 ^ m - 1 := by
      unfold shl
      rw [hb, hpz, Int.one_mul, i64_small _ (by omega) (by omega), wrap_small (by omega) (by omega)]
    have hv2 : v < 16384 := by omega
    rw [e, and_i64 m _ (by omega) (by omega) (by omega)]
    simp
theorem b64_l0 (B : ByteArray) (hs : B.size ≤ 1000000000) (m : Nat) (hm : m ≤ B.size) : ∀ (rest : Bytes) (i k h n : Nat) (acc : Bytes), ((bs B).take m).drop i = rest → rest.length + 1 ≤ k → acc.length ≤ i → i ≤ m → (n = 0 ∨ n = 2 ∨ n = 4 ∨ n = 6) → h < 2 ^ n →
    b64_Decode.l0 k B (numsB acc) (h : Int) (n : Int) (m : Int) (i : Int) = some (resC (bs B) (b64D rest h n acc))
  | [], i, k, h, n, acc, hd, hk, ha, him, hn, hh => by
    obtain ⟨k, rfl⟩ : ∃ j, k = j + 1 := ⟨k - 1, by omega⟩
    have := drop_nil hd
    rw [List.length_take, bs_length] at this
    have hp : b64_Plain.f (str acc) = some (str (b64P acc)) := by
      unfold b64_Plain.f
      rw [if_pos (by rw [str_size]; omega), bs_str]
    rw [b64_Decode.l0, if_neg (by omega), nums_str, hp, Option.bind_some, toList_str, toList_bs, b64D]
    unfold resC
    simp only []
    split <;> rfl
  | c :: r, i, k, h, n, acc, hd, hk, ha, him, hn, hh => by
    obtain ⟨k, rfl⟩ : ∃ j, k = j + 1 := ⟨k - 1, by omega⟩
    obtain ⟨h1, h2, h3, h4⟩ := drop_cons hd
    rw [List.length_take, bs_length] at h1
    have hb : (bs B).drop i = c :: (bs B).drop (i + 1) := by
      have hi2 : i < (bs B).length := by rw [bs_length]; omega
      rw [List.drop_eq_getElem_cons hi2]
      congr 1
      rw [List.getElem?_take, if_pos (by omega), List.getElem?_eq_getElem hi2] at h2
      exact Option.some.inj h2
    rw [b64_Decode.l0, if_pos (by omega), if_pos (by omega), if_pos (by omega), bt_drop hb, index_is, Option.bind_some, b64D]
    cases hv : b64V c with
    | none =>
      have e : b64Z c = -1 := by unfold b64Z; rw [hv]
      rw [e, if_pos (by decide)]
      rfl
    | some q =>
      have hq := b64V_lt hv
      have e : b64Z c = (q : Int) := by unfold b64Z; rw [hv]
      have hh6 : h < 64 := Nat.lt_of_lt_of_le hh (by
        have := Nat.pow_le_pow_right (n := 2) (by decide) (show n ≤ 6 by omega)
        exact this)
      have hq0 : ¬ (q : Int) < 0 := by omega
      have hn6 : wrap64 ((n : Int) + 6) = (n : Int) + 6 := wrap_small (by omega) (by omega)
      have hor : Go.bits .or .i64 (wrap64 ((h : Int) * 64)) (q : Int) = ((h * 64 + q : Nat) : Int) := by
        rw [wrap_small (by omega) (by omega), or_i64 6 _ _ (by omega) (by omega) (by omega) (by omega) (by omega) (by omega)]
        omega
      rw [e, if_neg hq0, hor, hn6, Option.bind_some]
      clear hor hn6
      rcases hn with hn | hn
      · subst hn
        obtain rfl : h = 0 := by simpa using hh
        rw [if_neg (by omega), if_neg (by omega), wrap_succ i (by omega)]
        have := b64_l0 B hs m hm r (i + 1) k (0 * 64 + q) 6 acc h3 (by simp at hk; omega) (by omega) (by omega) (by omega) (by omega)
        simpa using this
      · have hn2 : 2 ≤ n ∧ n ≤ 6 := by omega
        have hlt : h * 64 + q < 2 ^ (n - 2 + 8) := by
          have e1 : 2 ^ (n - 2 + 8) = 2 ^ n * 64 := by rw [show n - 2 + 8 = n + 6 by omega, Nat.pow_add]
          rw [e1]
          omega
        have q1 : (n : Int) + 6 ≥ 8 := by omega
        have q2 : 8 ≤ n + 6 := by omega
        have q3 : (0 : Int) ≤ ((n - 2 : Nat) : Int) := by omega
        have q4 : (numsB acc).length < 140737488355328 := by rw [numsB_len]; omega
        have hs1 := (b64_step h (n - 2) (h * 64 + q) (by omega) hlt).1
        have hs2 := (b64_step h (n - 2) (h * 64 + q) (by omega) hlt).2
        have hw : wrap64 ((n : Int) + 6 - 8) = ((n - 2 : Nat) : Int) := by rw [wrap_small (by omega) (by omega)]; omega
        rw [if_pos q1, if_pos q2, hw, if_pos q3, if_pos q4, hs1, hs2, wrap_succ i (by omega), numsB_snoc]
        exact b64_l0 B hs m hm r (i + 1) k _ (n - 2) _ h3 (by simp at hk; omega) (by rw [List.length_append, List.length_singleton]; omega) (by omega) (by omega) (Nat.mod_lt _ (Nat.two_pow_pos _))
def resD : Option Bytes → ByteArray × Int
  | none => (⟨#[]⟩, 3)
  | some b => (str b, 0)
theorem trimR_prefix (l cs : Bytes) : Lib.trimRightS l cs = l.take (Lib.trimRightS l cs).length := by
  apply List.prefix_iff_eq_take.1
  unfold Lib.trimRightS
  have := List.reverse_prefix.2 (List.dropWhile_suffix (l := l.reverse) (cs.contains ·))
  rwa [List.reverse_reverse] at this
theorem b64Decode_is (s : ByteArray) (hs : s.size ≤ 1000000000) (k : Nat) (hk : s.size + 2 ≤ k) : b64_Decode.f k s = some (resD (b64L (bs s))) := by
  have hl : (bareL (bs s)).length ≤ s.size := by
    rw [← bs_length s]
    exact List.length_filter_le _ _
  have hz : (str (bareL (bs s))).size ≤ s.size := by rw [str_size]; exact hl
  have ht : strings_TrimRight.f (str (bareL (bs s))) ⟨#[61]⟩ = some (str (Lib.trimRightS (bareL (bs s)) [61])) := by
    unfold strings_TrimRight.f
    rw [if_pos (by omega), if_pos (by decide), if_pos (by decide)]
    show some (str (Lib.trimRightS (bs (str (bareL (bs s)))) [61])) = _
    rw [bs_str]
  have hle : (Lib.trimRightS (bareL (bs s)) [61]).length ≤ (bareL (bs s)).length := by
    rw [trimR_prefix, List.length_take]
    omega
  unfold b64_Decode.f
  rw [bare_is s hs k (by omega), Option.bind_some, ht, Option.bind_some, str_size]
  have := b64_l0 (str (bareL (bs s))) (by omega) (Lib.trimRightS (bareL (bs s)) [61]).length (by rw [str_size]; exact hle) (Lib.trimRightS (bareL (bs s)) [61]) 0 k 0 0 [] (by rw [bs_str, List.drop_zero, ← trimR_prefix]) (by omega) (by simp) (by omega) (by omega) (by decide)
  rw [show ([] : List Int) = numsB [] from rfl]
  refine this.trans ?_
  unfold b64L
  rw [bs_str]
  cases b64D (Lib.trimRightS (bareL (bs s)) [61]) 0 0 [] with
  | none => rfl
  | some b =>
    simp only [resC, Option.bind_some]
    split <;> rfl
theorem octets_is (a0 a1 : ByteArray) (hs : a1.size ≤ 1000000000) (k : Nat) (hk : a1.size + 5 ≤ k) : ew_octets.f k a0 a1 = some (resQ (octL (bs a0) (bs a1))) := by
  obtain ⟨k, rfl⟩ : ∃ j, k = j + 1 := ⟨k - 1, by omega⟩
  have hq := quoted_is a1 hs k (by omega)
  have hd := b64Decode_is a1 hs k (by omega)
  have hr : ∀ o : Option Bytes, ((resD o).1, (resD o).2 == 0) = resQ o := by
    intro o
    cases o <;> rfl
  unfold ew_octets.f octL
  rw [toList_bs]
  have hj : ∀ t, ew_octets.j0 (k + 1) a1 a0 t = if t = true then some (resQ (quotedL (bs a1))) else if bs a0 = [98] then some (resQ (b64L (bs a1))) else if bs a0 = [66] then some (resQ (b64L (bs a1))) else some (⟨#[]⟩, false) := by
    intro t
    rw [ew_octets.j0, hq, hd, toList_bs]
    simp only [Option.bind_some, hr]
  by_cases h1 : bs a0 = [113]
  · rw [if_pos h1, if_pos (.inl h1), hj, beq_iff_eq.2 h1, if_pos rfl]
  · rw [if_neg h1, hj]
    by_cases h2 : bs a0 = [81]
    · rw [beq_iff_eq.2 h2, if_pos rfl, if_pos (.inr h2)]
    · have h12 : ¬ (bs a0 = [113] ∨ bs a0 = [81]) := fun h => h.elim h1 h2
      rw [beq_eq_false_iff_ne.2 h2]
      simp only [Bool.false_eq_true, if_false]
      rw [if_neg h12]
      by_cases h3 : bs a0 = [98]
      · rw [if_pos h3, if_pos (.inl h3)]
      · rw [if_neg h3]
        by_cases h4 : bs a0 = [66]
        · rw [if_pos h4, if_pos (.inr h4)]
        · have h34 : ¬ (bs a0 = [98] ∨ bs a0 = [66]) := fun h => h.elim h3 h4
          rw [if_neg h4, if_neg h34]
          rfl
/-! Cut at the question marks. -/
theorem upQ_index : ∀ l : Bytes, (upQ l = none ∧ Lib.indexByte l 63 = -1) ∨ (∃ i : Nat, Lib.indexByte l 63 = i ∧ i < l.length ∧ upQ l = some (l.take i, l.drop (i + 1)))
  | [] => .inl ⟨rfl, rfl⟩
  | c :: l => by
    by_cases hc : c = 63
    · exact .inr ⟨0, by rw [Lib.indexByte, if_pos (beq_iff_eq.2 hc)]; rfl, by simp, by rw [upQ, if_pos hc]; rfl⟩
    · have hc' : ¬ (c == 63) = true := fun h => hc (beq_iff_eq.1 h)
      rcases upQ_index l with ⟨h1, h2⟩ | ⟨i, h1, h2, h3⟩
      · exact .inl ⟨by rw [upQ, if_neg hc, h1]; rfl, by rw [Lib.indexByte, if_neg hc', if_pos (by rw [h2]; rfl), ]⟩
      · refine .inr ⟨i + 1, ?_, by simp; omega, by rw [upQ, if_neg hc, h3]; rfl⟩
        rw [Lib.indexByte, if_neg hc', if_neg (by rw [h1, beq_iff_eq]; omega), h1]
        omega
def spL : Nat → Bytes → List Bytes
  | 0, l => [l]
  | n + 1, l => match upQ l with | none => [l] | some x => x.1 :: spL n x.2
theorem split_is : ∀ (n : Nat) (s : ByteArray), Lib.splitB ⟨#[63]⟩ 0 n s = (spL n (bs s)).map str
  | 0, s => by rw [Lib.splitB_zero, spL, List.map_singleton, str_bs]
  | n + 1, s => by
    have e : Lib.indexB s ⟨#[63]⟩ = Lib.indexByte (bs s) 63 := Lib.index_one (bs s) 63
    rcases upQ_index (bs s) with ⟨h1, h2⟩ | ⟨i, h1, h2, h3⟩
    · rw [Lib.splitB_miss _ _ _ _ (e.trans h2), spL, h1, List.map_singleton, str_bs]
    · rw [Lib.splitB_hit _ _ _ _ i (e.trans h1), spL, h3, split_is n]
      simp only [List.map_cons]
      congr 1
      · apply bs_inj
        rw [bs_extract, bs_str, List.drop_zero, Nat.add_zero]
      · rw [bs_extract, List.take_of_length_le (by rw [bs_length]; exact Nat.le_refl _)]
        rfl
theorem spL_len : ∀ (n : Nat) (l : Bytes), (spL n l).length ≤ n + 1
  | 0, l => Nat.le_refl _
  | n + 1, l => by
    rw [spL]
    cases upQ l with
    | none => simp
    | some x =>
      have := spL_len n x.2
      simp only [List.length_cons]
      omega
def resW : Option (Bytes × Nat) → ByteArray × Int
  | none => (⟨#[]⟩, 0)
  | some x => (str x.1, (x.2 : Int))
theorem sp_four (l : Bytes) : ((spL 3 l).length < 4 ∧ (upQ l).bind (fun a => (upQ a.2).bind fun k => upQ k.2) = none) ∨ (∃ a k t, upQ l = some a ∧ upQ a.2 = some k ∧ upQ k.2 = some t ∧ spL 3 l = [a.1, k.1, t.1, t.2]) := by
  cases h1 : upQ l with
  | none => exact .inl ⟨by simp [spL, h1], rfl⟩
  | some a =>
    cases h2 : upQ a.2 with
    | none => exact .inl ⟨by simp [spL, h1, h2], by simp [h2]⟩
    | some k =>
      cases h3 : upQ k.2 with
      | none => exact .inl ⟨by simp [spL, h1, h2, h3], by simp [h2, h3]⟩
      | some t => exact .inr ⟨a, k, t, rfl, h2, h3, by simp [spL, h1, h2, h3]⟩
theorem sp_few (n : Nat) (hn : n ≤ 2) (l : Bytes) (hl : l.length ≤ n) : (spL n l).length < 4 ∧ (upQ l).bind (fun a => (upQ a.2).bind fun k => upQ k.2) = none := by
  refine ⟨by have := spL_len n l; omega, ?_⟩
  cases h1 : upQ l with
  | none => rfl
  | some a =>
    have e1 := congrArg List.length (upQ_some h1)
    simp only [List.length_append, List.length_cons] at e1
    simp only [Option.bind_some]
    cases h2 : upQ a.2 with
    | none => rfl
    | some k =>
      have e2 := congrArg List.length (upQ_some h2)
      simp only [List.length_append, List.length_cons] at e2
      simp only [Option.bind_some]
      cases h3 : upQ k.2 with
      | none => rfl
      | some t =>
        have e3 := congrArg List.length (upQ_some h3)
        simp only [List.length_append, List.length_cons] at e3
        omega
end Go.Proofs.YtihabmcaplnbcaaDoor.Pl
set_option linter.unusedVariables false
set_option linter.unusedSimpArgs false
namespace Go.Proofs.YtihabmcaplnbcaaDoor.Pl
open Go.RowKit Go.Proofs.YtihabmcaplnbcaaDoorW.PrintWords Go.Proofs.YtihabmcaplnbcaaDoor.Fn

/-! Layer 19: the program's word. -/
theorem prefix2_is (s : ByteArray) (c d : UInt8) : stringslite_HasPrefix.f s ⟨#[c, d]⟩ = some ((bs s).take 2 == [c, d]) := by
  unfold stringslite_HasPrefix.f
  have hz : ((⟨#[c, d]⟩ : ByteArray).size : Int) = 2 := rfl
  rw [hz]
  by_cases h : (s.size : Int) ≥ 2
  · rw [if_pos h, if_pos (by decide), if_pos (by omega), toList_bs, bs_extract, List.drop_zero, toList_bs]
    rfl
  · rw [if_neg h]
    congr 1
    rw [eq_comm, beq_eq_false_iff_ne]
    intro e
    have := congrArg List.length e
    rw [List.length_take, bs_length] at this
    simp at this
    omega
theorem prefix1_is (s : ByteArray) (c : UInt8) : strings_HasPrefix.f s ⟨#[c]⟩ = some ((bs s).take 1 == [c]) := by
  unfold strings_HasPrefix.f stringslite_HasPrefix.f
  have hz : ((⟨#[c]⟩ : ByteArray).size : Int) = 1 := rfl
  rw [hz]
  by_cases h : (s.size : Int) ≥ 1
  · rw [if_pos h, if_pos (by decide), if_pos (by omega), toList_bs, bs_extract, List.drop_zero, toList_bs]
    rfl
  · rw [if_neg h, Option.bind_some]
    congr 1
    rw [eq_comm, beq_eq_false_iff_ne]
    intro e
    have := congrArg List.length e
    rw [List.length_take, bs_length] at this
    simp at this
    omega
theorem cutprefix_is (s : ByteArray) : strings_CutPrefix.f s ⟨#[61, 63]⟩ = some (if (bs s).take 2 = [61, 63] then (str ((bs s).drop 2), true) else (s, false)) := by
  unfold strings_CutPrefix.f stringslite_CutPrefix.f
  rw [prefix2_is, Option.bind_some]
  by_cases h : (bs s).take 2 = [61, 63]
  · have hl : 2 ≤ s.size := by
      have := congrArg List.length h
      rw [List.length_take, bs_length] at this
      simp at this
      omega
    have hz : ((⟨#[61, 63]⟩ : ByteArray).size : Int) = 2 := rfl
    rw [if_pos (beq_iff_eq.2 h), hz, if_pos (by decide), if_pos (by omega), if_pos h, Option.bind_some]
    congr 2
    apply bs_inj
    rw [bs_extract, bs_str, List.take_of_length_le (by rw [bs_length]; exact Nat.le_refl _)]
    rfl
  · rw [if_neg (by rw [beq_iff_eq]; exact h), if_neg h, Option.bind_some]
theorem signsR_some {a b : ByteArray} {x : Bytes} (h : signsL (bs a) (bs b) = some x) : signsR a b = (str x, true) := by
  unfold signsL at h
  unfold signsR
  split at h
  · next h1 =>
    rw [if_pos h1]
    split at h
    · next h2 =>
      injection h with h
      rw [if_pos h2, ← h, str_bs]
    · cases h
  · next h1 =>
    rw [if_neg h1]
    split at h
    · next h3 =>
      rw [if_pos h3]
      split at h
      · next h4 =>
        injection h with h
        rw [str_bs] at h4
        rw [h4, ← h, str_bs]
      · cases h
    · next h3 =>
      rw [if_neg h3]
      split at h
      · next h5 =>
        injection h with h
        rw [if_pos h5, ← h]
      · cases h
theorem signsR_none {a b : ByteArray} (h : signsL (bs a) (bs b) = none) : (signsR a b).2 = false := by
  unfold signsL at h
  unfold signsR
  split at h
  · next h1 =>
    rw [if_pos h1]
    split at h
    · cases h
    · next h2 => rw [if_neg h2]
  · next h1 =>
    rw [if_neg h1]
    split at h
    · next h3 =>
      rw [if_pos h3]
      split at h
      · cases h
      · next h4 =>
        rw [str_bs] at h4
        simpa using h4
    · next h3 =>
      rw [if_neg h3]
      split at h
      · cases h
      · next h5 => rw [if_neg h5]
theorem word_j1 (k : Nat) (a b : ByteArray) (P : List ByteArray) (n : Int) (t : Bool) (hP : P[0]? = some a) (ha : a.size ≤ 1000000000) (hb : b.size ≤ 1000000000) :
    ew_word.j1 (k + 1) P n b t = some (if t = true then (⟨#[]⟩, 0) else match signsL (bs a) (bs b) with | none => (⟨#[]⟩, 0) | some x => (str x, n)) := by
  rw [ew_word.j1]
  cases t with
  | true => rfl
  | false =>
    have hr : rdOf ByteArray.empty P 0 = a := by
      unfold rdOf
      simp [hP]
    have hl : 0 < (P.length : Int) := by
      rcases P with _ | ⟨p, P⟩
      · cases hP
      · simp
    have hs : ew_signs.f a b = some (signsR a b) := by unfold ew_signs.f; rw [if_pos ⟨ha, hb⟩]
    simp only [Bool.false_eq_true, if_false]
    rw [if_pos hl, hr, hs, Option.bind_some]
    cases hx : signsL (bs a) (bs b) with
    | none => rw [signsR_none hx]; rfl
    | some x => rw [signsR_some hx]; rfl
theorem quotedF_len : ∀ (f : Nat) (l x : Bytes), quotedF f l = some x → x.length ≤ l.length
  | 0, l, x, h => by injection h with h; rw [← h]; simp
  | _ + 1, [], x, h => by injection h with h; rw [← h]; simp
  | f + 1, c :: r, x, h => by
    rw [quotedF] at h
    split at h
    · obtain ⟨y, hy, e⟩ := Option.map_eq_some_iff.1 h
      have := quotedF_len f r y hy
      rw [← e]; simp; omega
    · split at h
      · split at h
        · obtain ⟨z, hz, h⟩ := obind_some h
          obtain ⟨y, hy, e⟩ := Option.map_eq_some_iff.1 h
          have := quotedF_len f _ y hy
          rw [List.length_drop] at this
          rw [← e]; simp; omega
        · cases h
      · obtain ⟨y, hy, e⟩ := Option.map_eq_some_iff.1 h
        have := quotedF_len f r y hy
        rw [← e]; simp; omega
theorem b64D_len : ∀ (l : Bytes) (h n : Nat) (acc x : Bytes), b64D l h n acc = some x → x.length ≤ acc.length + l.length
  | [], h, n, acc, x, e => by injection e with e; rw [← e]; simp
  | c :: r, h, n, acc, x, e => by
    rw [b64D] at e
    obtain ⟨k, _, e⟩ := obind_some e
    split at e
    · have := b64D_len r _ _ _ x e
      simp at this ⊢
      omega
    · have := b64D_len r _ _ _ x e
      simp at this ⊢
      omega
theorem octL_len {k l x : Bytes} (h : octL k l = some x) : x.length ≤ l.length := by
  unfold octL at h
  split at h
  · exact quotedF_len _ _ _ h
  · split at h
    · obtain ⟨y, hy, h⟩ := obind_some h
      have h1 := b64D_len _ _ _ _ _ hy
      have h2 : (Lib.trimRightS (bareL l) [61]).length ≤ (bareL l).length := by
        rw [trimR_prefix, List.length_take]
        omega
      have h3 : (bareL l).length ≤ l.length := List.length_filter_le _ _
      split at h
      · injection h with h
        rw [← h]
        simp at h1
        omega
      · cases h
    · cases h
theorem word_j0 (k : Nat) (a q t z : Bytes) (b : Bool) (ha : a.length ≤ 1000000000) (hq : q.length ≤ 1000000000) (ht : t.length ≤ 1000000000) (hk : t.length + 10 ≤ k) :
    ew_word.j0 k [str a, str q, str t, str z] b = some (if b = true then (⟨#[]⟩, 0) else if ewN a q t ≤ 75 then resW ((octL q t).bind fun o => (signsL a o).bind fun x => some (x, ewN a q t)) else (⟨#[]⟩, 0)) := by
  obtain ⟨k, rfl⟩ : ∃ j, k = j + 1 + 1 := ⟨k - 2, by omega⟩
  rw [ew_word.j0]
  cases b with
  | true => rfl
  | false =>
    simp only [Bool.false_eq_true, if_false]
    have r0 : rdOf ByteArray.empty [str a, str q, str t, str z] 0 = str a := rfl
    have r1 : rdOf ByteArray.empty [str a, str q, str t, str z] 1 = str q := rfl
    have r2 : rdOf ByteArray.empty [str a, str q, str t, str z] 2 = str t := rfl
    have ho := octets_is (str q) (str t) (by rw [str_size]; exact ht) (k + 1) (by rw [str_size]; omega)
    rw [bs_str, bs_str] at ho
    have hn : wrap64 (wrap64 (wrap64 (wrap64 (wrap64 (wrap64 (2 + ((str a).size : Int)) + 1) + ((str q).size : Int)) + 1) + ((str t).size : Int)) + 2) = (ewN a q t : Int) := by
      rw [str_size, str_size, str_size]
      unfold ewN
      rw [wrap_small (x := 2 + (a.length : Int)) (by omega) (by omega), wrap_small (x := 2 + (a.length : Int) + 1) (by omega) (by omega), wrap_small (x := 2 + (a.length : Int) + 1 + (q.length : Int)) (by omega) (by omega), wrap_small (x := 2 + (a.length : Int) + 1 + (q.length : Int) + 1) (by omega) (by omega), wrap_small (x := 2 + (a.length : Int) + 1 + (q.length : Int) + 1 + (t.length : Int)) (by omega) (by omega), wrap_small (x := 2 + (a.length : Int) + 1 + (q.length : Int) + 1 + (t.length : Int) + 2) (by omega) (by omega)]
      omega
    rw [if_pos (by simp), if_pos (by simp), if_pos (by simp), r0, r1, r2, ho, Option.bind_some, hn]
    have hbz : (resQ (octL q t)).1.size ≤ 1000000000 := by
      cases hx : octL q t with
      | none => exact Nat.zero_le _
      | some x =>
        have := octL_len hx
        show (str x).size ≤ _
        rw [str_size]
        omega
    rw [word_j1 k (str a) _ _ _ _ rfl (by rw [str_size]; exact ha) hbz, word_j1 k (str a) _ _ _ _ rfl (by rw [str_size]; exact ha) hbz, bs_str]
    by_cases h75 : ewN a q t ≤ 75
    · rw [if_neg (by omega), if_pos h75]
      cases hx : octL q t with
      | none => rfl
      | some o =>
        simp only [resQ, Bool.not_true, Bool.false_eq_true, if_false, bs_str, Option.bind_some]
        cases signsL a o <;> rfl
    · rw [if_pos (by omega), if_neg h75]
      rfl
theorem word_is (s : ByteArray) (hs : s.size ≤ 1000000000) (k : Nat) (hk : s.size + 10 ≤ k) : ew_word.f k s = some (resW (wordL (bs s))) := by
  unfold ew_word.f wordL
  rw [cutprefix_is, Option.bind_some]
  by_cases h0 : (bs s).take 2 = [61, 63]
  · rw [if_pos h0, if_pos h0]
    simp only [if_true]
    obtain ⟨l, hl⟩ : ∃ l, (bs s).drop 2 = l := ⟨_, rfl⟩
    have hlen : l.length + 2 ≤ s.size := by
      have h1 := congrArg List.length h0
      rw [List.length_take, bs_length] at h1
      rw [← hl, List.length_drop, bs_length]
      simp at h1
      omega
    rw [hl]
    have hsp : strings_SplitN.f (str l) ⟨#[63]⟩ 4 = some ((spL (min 4 (l.length + 1) - 1) l).map str) := by
      unfold strings_SplitN.f
      rw [str_size, if_pos (by omega), if_pos (by decide), if_pos (by decide), split_is, bs_str]
      rfl
    rw [hsp, Option.bind_some]
    have hno : ∀ P : List ByteArray, P.length < 4 → (upQ l).bind (fun a => (upQ a.2).bind fun k => upQ k.2) = none →
        (if (P.length : Int) < 4 then ew_word.j0 k P true else none) = some (resW ((upQ l).bind fun a => (upQ a.2).bind fun k => (upQ k.2).bind fun t =>
      if (a.1 ≠ [] ∧ solidL a.1 = true ∧ solidL t.1 = true ∧ t.2.take 1 = [61]) ∧ ewN a.1 k.1 t.1 ≤ 75 then
        (octL k.1 t.1).bind fun b => (signsL a.1 b).bind fun x => some (x, ewN a.1 k.1 t.1) else none)) := by
      intro P hP hn
      obtain ⟨k, rfl⟩ : ∃ j, k = j + 1 := ⟨k - 1, by omega⟩
      rw [if_pos (by omega), ew_word.j0, if_pos rfl]
      cases h1 : upQ l with
      | none => rfl
      | some a =>
        cases h2 : upQ a.2 with
        | none => simp [h2, resW]
        | some q =>
          cases h3 : upQ q.2 with
          | none => simp [h2, h3, resW]
          | some t => rw [h1] at hn; simp [h2, h3] at hn
    by_cases hsm : l.length ≤ 2
    · rw [show min 4 (l.length + 1) - 1 = l.length by omega]
      obtain ⟨h1, h2⟩ := sp_few l.length hsm l (Nat.le_refl _)
      have h3 := hno ((spL l.length l).map str) (by rw [List.length_map]; exact h1) h2
      rw [if_pos (by rw [List.length_map]; omega)] at h3 ⊢
      exact h3
    · rw [show min 4 (l.length + 1) - 1 = 3 by omega]
      rcases sp_four l with ⟨h1, h2⟩ | ⟨a, q, t, h1, h2, h3, h4⟩
      · have h3 := hno ((spL 3 l).map str) (by rw [List.length_map]; exact h1) h2
        rw [if_pos (by rw [List.length_map]; omega)] at h3 ⊢
        exact h3
      · have e1 := congrArg List.length (upQ_some h1)
        have e2 := congrArg List.length (upQ_some h2)
        have e3 := congrArg List.length (upQ_some h3)
        simp only [List.length_append, List.length_cons] at e1 e2 e3
        have hj := fun b => word_j0 k a.1 q.1 t.1 t.2 b (by omega) (by omega) (by omega) (by omega)
        have r0 : rdOf ByteArray.empty [str a.1, str q.1, str t.1, str t.2] 0 = str a.1 := rfl
        have r2 : rdOf ByteArray.empty [str a.1, str q.1, str t.1, str t.2] 2 = str t.1 := rfl
        have r3 : rdOf ByteArray.empty [str a.1, str q.1, str t.1, str t.2] 3 = str t.2 := rfl
        rw [h4, h1]
        simp only [List.map_cons, List.map_nil, Option.bind_some, h2, h3]
        rw [if_neg (by simp), if_pos (by simp), r0, toList_str]
        by_cases c1 : a.1 = []
        · rw [if_pos c1, hj, if_pos rfl, if_neg (fun h => h.1.1 c1)]
          rfl
        · have s1 := solid_is (str a.1) (by rw [str_size]; omega) k (by rw [str_size]; omega)
          have s2 := solid_is (str t.1) (by rw [str_size]; omega) k (by rw [str_size]; omega)
          rw [bs_str] at s1 s2
          rw [if_neg c1, s1, Option.bind_some]
          cases c2 : solidL a.1 with
          | false => simp [hj, resW]
          | true =>
            rw [if_pos rfl, if_pos (by simp), r2, s2, Option.bind_some]
            cases c3 : solidL t.1 with
            | false => simp [hj, resW]
            | true =>
              rw [if_pos rfl, if_pos (by simp), r3, prefix1_is, Option.bind_some, bs_str, hj]
              by_cases c4 : t.2.take 1 = [61]
              · rw [beq_iff_eq.2 c4]
                simp only [Bool.not_true, Bool.false_eq_true, if_false]
                by_cases c5 : ewN a.1 q.1 t.1 ≤ 75
                · rw [if_pos c5, if_pos ⟨⟨c1, trivial, trivial, c4⟩, c5⟩]
                · rw [if_neg c5, if_neg (fun h => c5 h.2)]
                  rfl
              · have c4' : ¬ ((a.1 ≠ [] ∧ true = true ∧ true = true ∧ t.2.take 1 = [61]) ∧ ewN a.1 q.1 t.1 ≤ 75) := fun h => c4 h.1.2.2.2
                rw [beq_eq_false_iff_ne.2 c4, if_neg c4']
                rfl
  · rw [if_neg h0, if_neg h0]
    rfl
end Go.Proofs.YtihabmcaplnbcaaDoor.Pl
set_option linter.unusedVariables false
namespace Go.Proofs.YtihabmcaplnbcaaDoor.Fn
open Go.RowKit Go.Proofs.YtihabmcaplnbcaaDoorW.PrintWords

def strings_TrimLeft.f (a0 a1 : ByteArray) : Option ByteArray :=
  if a0.size ≤ 140737488355328 then (if a1.size ≤ 1000 then (if a1.data.toList.all (fun b => decide (b.toNat < 128)) = true then some (Pl.str (Lib.trimLeftS a0.data.toList a1.data.toList)) else none) else none) else none
theorem strings_TrimLeft.calls (a0 a1 r : ByteArray) (w : World) (h : strings_TrimLeft.f a0 a1 = some r) :
    Calls Tryd.prog 47 #[.string a0, .string a1] w fun e w' => e = .returned (.string r) ∧ Below w.heap.size w w' := by
  unfold strings_TrimLeft.f at h
  by_cases hs : a0.size ≤ 140737488355328
  · rw [if_pos hs] at h
    by_cases hc : a1.size ≤ 1000
    · rw [if_pos hc] at h
      by_cases ha : a1.data.toList.all (fun b => decide (b.toNat < 128)) = true
      · rw [if_pos ha] at h
        have HR := Option.some.inj h
        subst HR
        exact Any.strings_TrimLeft_laid Tryd.lays161 (by kernel_rfl) a0 a1 w (by omega) (ascii_of_all ha)
      · rw [if_neg ha] at h; exact absurd h (by simp)
    · rw [if_neg hc] at h; exact absurd h (by simp)
  · rw [if_neg hs] at h; exact absurd h (by simp)
end Go.Proofs.YtihabmcaplnbcaaDoor.Fn
set_option linter.unusedVariables false
set_option linter.unusedSimpArgs false
namespace Go.Proofs.YtihabmcaplnbcaaDoor.Pl
open Go.RowKit Go.Proofs.YtihabmcaplnbcaaDoorW.PrintWords
theorem signsL_len {cs s x : Bytes} (h : signsL cs s = some x) : x.length ≤ 4 * s.length := by
  unfold signsL at h
  split at h
  · split at h
    · injection h with h; rw [← h]; omega
    · cases h
  · split at h
    · split at h
      · injection h with h; rw [← h]; omega
      · cases h
    · split at h
      · injection h with h
        rw [← h]
        clear h
        induction s with
        | nil => simp
        | cons c s ih =>
          rw [List.flatMap_cons, List.length_append, List.length_cons]
          have := (Lib.encodeRuneZ_length (c.toNat : Int)).2
          have h4 : (er c.toNat).length ≤ 4 := by unfold er Lib.encodeRune; simpa using this
          omega
      · cases h
theorem wordL_len {s x : Bytes} {n : Nat} (h : wordL s = some (x, n)) : x.length ≤ 300 := by
  unfold wordL at h
  split at h
  · obtain ⟨a, _, h⟩ := obind_some h
    obtain ⟨k, _, h⟩ := obind_some h
    obtain ⟨t, _, h⟩ := obind_some h
    split at h
    · next h1 =>
      obtain ⟨b, hb, h⟩ := obind_some h
      obtain ⟨y, hy, h⟩ := obind_some h
      injection h with h
      injection h with e1 e2
      have h2 := octL_len hb
      have h3 := signsL_len hy
      have h4 := h1.2
      unfold ewN at h4
      rw [← e1]
      omega
    · cases h
  · cases h
end Go.Proofs.YtihabmcaplnbcaaDoor.Pl
namespace Go.Proofs.YtihabmcaplnbcaaDoor.Fn
open Go.RowKit Go.Proofs.YtihabmcaplnbcaaDoorW.PrintWords

def ew_Decode.f (a0 : ByteArray) : Option ByteArray := if a0.size ≤ 1000000000 then some (Pl.str (Pl.decodeL (Pl.bs a0))) else none
set_option maxHeartbeats 4000000 in
set_option maxRecDepth 100000 in
theorem ew_Decode.calls (a0 r : ByteArray) (w : World) (hG : Glob w) (h : ew_Decode.f a0 = some r) :
    Calls Tryd.prog 19 #[.string a0] w fun e w' => e = .returned (.string r) ∧ Below w.heap.size w w' := by
  unfold ew_Decode.f at h
  by_cases hs : a0.size ≤ 1000000000
  · rw [if_pos hs] at h
    have HR := hid (Option.some.inj h)
    have HG := hid hG
    clear h hG
    go_enter Tryd.func19, Tryd.ntmps19
    go_wp2
    go_loopw [0] (fun v0 wr => ∃ (s : ByteArray) (fuel : Nat) (acc : List UInt8), v0 = .string s ∧ isBd w.heap.size w.heap.size (Lib.byteCells acc) wr ∧ Below w.heap.size w wr ∧ Hid (Pl.str (Pl.decL fuel (Pl.bs s) acc) = r) ∧ s.size ≤ fuel ∧ acc.length + 300 * s.size ≤ 300 * a0.size) (fun v0 wr => strLen v0)
    case atStart => exact ⟨a0, a0.size, [], rfl, Lib.IsBuilderF.of (Lib.fresh_isBuilder _ _ w), (Below.refl _ w).alloc (Nat.le_refl _) _, (by have := HR.out; unfold Pl.decodeL at this; rw [Pl.bs_length] at this; exact this), Nat.le_refl _, by simp⟩
    case round =>
      obtain ⟨s, fuel, acc, rfl, hI, hbw, hacc, hfu, hal⟩ := hrel
      have hbs := hbw.size
      have hblt := bd_lt hI
      have hzs := Pl.bs_length s
      by_cases he : s.toList = []
      · obtain ⟨e0, e1⟩ := toList_ne he
        have hend : Hid (Pl.str acc = r) := by
          show _ = _
          rw [← hacc.out, show Pl.bs s = [] from by rw [← Pl.toList_bs]; exact he]
          cases fuel <;> rfl
        go_wp2_with (go_at_call 48; refine (Tryd.Builder_String_any_k w.heap.size w.heap.size acc _ hI hbs).mono ?_; rintro e W1 ⟨rfl, _, b1, _⟩)
        go_ret
        refine ⟨?_, hbw.trans b1⟩
        rw [← hend.out]
        rfl
      · obtain ⟨e0, e1⟩ := toList_ne' he
        obtain ⟨c, l, hcl⟩ : ∃ c l, Pl.bs s = c :: l := by
          cases hx : Pl.bs s with
          | nil => rw [Pl.toList_bs] at he; exact absurd hx he
          | cons c l => exact ⟨c, l, rfl⟩
        have hlen : l.length + 1 = s.size := by rw [← hzs, hcl]; rfl
        obtain ⟨f, rfl⟩ : ∃ f, fuel = f + 1 := ⟨fuel - 1, by omega⟩
        have hwd := Pl.word_is s (by omega) (s.size + 10) (Nat.le_refl _)
        have hGr := hid (HG.out.below hbw)
        have hacc' := hacc.out
        rw [hcl, Pl.decL] at hacc'
        cases hw : Pl.wordL (Pl.bs s) with
        | none =>
          rw [hw] at hwd
          rw [hcl] at hw
          rw [hw] at hacc'
          have HW : Hid (ew_word.f (s.size + 10) s = some (⟨#[]⟩, 0)) := hwd
          have hb0 : s.size > 0 := by omega
          have hx0 : ∀ h, ((s[0]'h).toNat : Int) = (c.toNat : Int) := fun h => by
            have : (Pl.bs s)[0]? = some c := by rw [hcl]; rfl
            rw [List.getElem?_eq_getElem (by rw [hzs]; omega)] at this
            rw [← Option.some.inj this]
            rfl
          have q1 : (0 < s.size) = True := eq_true (by omega)
          have q2 : ((0 : Int) < (s.size : Int)) = True := eq_true (by omega)
          have q3 : ((1 : Int) ≤ (s.size : Int)) = True := eq_true (by omega)
          have hx2 : Pl.bs (s.extract 1 s.size) = l := by rw [Pl.bs_extract, List.take_of_length_le (by omega), hcl]; rfl
          have hx4 : (s.extract 1 s.size).size = s.size - 1 := by rw [← Pl.bs_length, hx2]; omega
          have hnew : Hid (Pl.str (Pl.decL f (Pl.bs (s.extract 1 s.size)) (acc ++ [c])) = r) := by
            show _ = _
            rw [hx2, ← hacc']
          clear hwd hw hacc hacc' he hcl hx2
          go_wp2_with (first
            | (go_at_call 44; refine (ew_word.calls _ s _ _ _ hGr.out HW.out).mono ?_; rintro e W2 ⟨rfl, b2⟩; have hI2 := bd_below hI b2)
            | (go_at_call 45; refine (bd_byte w.heap.size w.heap.size (Lib.byteCells acc) _ _ hI2 (by rw [Lib.byteCells_length]; omega) (by have := b2.size; omega)).mono ?_; rintro e W3 ⟨rfl, h3, b3, k3⟩))
          refine ⟨⟨_, f, acc ++ [c], rfl, ?_, hbw.trans ((b2.mono hbs).trans b3), hnew, by omega, ?_⟩, ?_⟩
          · rw [Lib.byteCells_append]; exact h3.is
          · rw [List.length_append, List.length_singleton, hx4]; omega
          · simp only [strLen, hx4]; omega
        | some y =>
          obtain ⟨x, n⟩ := y
          rw [hw] at hwd
          obtain ⟨_, _, hn1, hn2, hn3, _⟩ := Pl.wordL_some hw
          have hxl := Pl.wordL_len hw
          rw [hcl] at hw
          rw [hw] at hacc'
          simp only [] at hacc'
          rw [hzs] at hn3
          obtain ⟨X, hX⟩ : ∃ X, Pl.str x = X := ⟨_, rfl⟩
          have hXb : Pl.bs X = x := by rw [← hX, Pl.bs_str]
          have hXz : X.size = x.length := by rw [← hX, Pl.str_size]
          have HW : Hid (ew_word.f (s.size + 10) s = some (X, (n : Int))) := by
            show _ = _
            rw [hwd, ← hX]
            rfl
          have hx2 : Pl.bs (s.extract n s.size) = (c :: l).drop n := by rw [Pl.bs_extract, List.take_of_length_le (by omega), hcl]
          have hx4 : (s.extract n s.size).size = s.size - n := by rw [← Pl.bs_length, hx2, List.length_drop, List.length_cons]; omega
          obtain ⟨T, hT⟩ : ∃ T, Pl.str (Pl.trimB ((c :: l).drop n)) = T := ⟨_, rfl⟩
          have hTb : Pl.bs T = Pl.trimB ((c :: l).drop n) := by rw [← hT, Pl.bs_str]
          have hTz : T.size ≤ s.size - n := by
            have := Pl.trimB_len ((c :: l).drop n)
            rw [← hTb, Pl.bs_length, List.length_drop, List.length_cons] at this
            omega
          have HT : Hid (strings_TrimLeft.f (s.extract n s.size) ⟨#[32, 9]⟩ = some T) := by
            show _ = _
            unfold strings_TrimLeft.f
            rw [if_pos (by omega), if_pos (by decide), if_pos (by decide), ← hT]
            show some (Pl.str (Lib.trimLeftS (Pl.bs (s.extract n s.size)) [32, 9])) = _
            rw [hx2]
            rfl
          have hwd2 := Pl.word_is T (by omega) (T.size + 10) (Nat.le_refl _)
          have q0 : ((n : Int) = 0) = False := eq_false (by omega)
          have q0' : ((n : Int) == 0) = false := beq_eq_false_iff_ne.2 (by omega)
          have q2 : ((n : Int) ≤ (s.size : Int)) = True := eq_true (by omega)
          have q3 : ((0 : Int) ≤ (n : Int)) = True := eq_true (by omega)
          rw [← hTb] at hacc'
          cases hw2 : Pl.wordL (Pl.bs T) with
          | none =>
            rw [hw2] at hwd2 hacc'
            have HW2 : Hid (ew_word.f (T.size + 10) T = some (⟨#[]⟩, 0)) := hwd2
            have hnew : Hid (Pl.str (Pl.decL f (Pl.bs (s.extract n s.size)) (acc ++ x)) = r) := by
              show _ = _
              rw [hx2, ← hacc']
              rfl
            clear hwd hw hacc hacc' he hcl hx2 hX hT hTb hwd2 hw2
            go_wp2_with (first
              | (go_at_call 44; refine (ew_word.calls _ T _ _ _ hG4.out HW2.out).mono ?_; rintro e W5 ⟨rfl, b5⟩)
              | (go_at_call 44; refine (ew_word.calls _ s _ _ _ hGr.out HW.out).mono ?_; rintro e W2 ⟨rfl, b2⟩; have hI2 := bd_below hI b2)
              | (go_at_call 47; refine (strings_TrimLeft.calls (s.extract n s.size) ⟨#[32, 9]⟩ T _ HT.out).mono ?_; rintro e W4 ⟨rfl, b4⟩; have hG4 := hid (HG.out.below (hbw.trans ((b2.mono hbs).trans (b3.trans (b4.mono (by have := b2.size; have := b3.size; omega)))))))
              | (go_at_call 46; refine (bd_string w.heap.size w.heap.size (Lib.byteCells acc) X _ hI2 (by rw [Lib.byteCells_length]; omega) (by have := b2.size; omega)).mono ?_; rintro e W3 ⟨rfl, h3, b3, k3⟩; have hI3 : isBd w.heap.size w.heap.size (Lib.byteCells (acc ++ x)) W3 := (by rw [Lib.byteCells_append, ← hXb]; exact h3.is)))
            go_roundw
            case rel =>
              refine ⟨_, f, acc ++ x, rfl, bd_below (bd_below hI3 b4) b5, hbw.trans ((b2.mono hbs).trans (b3.trans ((b4.mono (by have := b2.size; have := b3.size; omega)).trans (b5.mono (by have := b2.size; have := b3.size; have := b4.size; omega))))), hnew, by omega, ?_⟩
              rw [List.length_append]; omega
            case measure => simp only [strLen]; omega
          | some z =>
            obtain ⟨x2, n2⟩ := z
            obtain ⟨_, _, hn4, _, _, _⟩ := Pl.wordL_some hw2
            have q4 : ((0 : Int) < (n2 : Int)) = True := eq_true (by omega)
            have q5 : (0 < n2) = True := eq_true (by omega)
            rw [hw2] at hwd2 hacc'
            have HW2 : Hid (ew_word.f (T.size + 10) T = some (Pl.str x2, (n2 : Int))) := hwd2
            have hnew : Hid (Pl.str (Pl.decL f (Pl.bs T) (acc ++ x)) = r) := by
              show _ = _
              rw [← hacc']
              rfl
            clear hwd hw hacc hacc' he hcl hx2 hX hT hTb hwd2 hw2
            go_wp2_with (first
              | (go_at_call 44; refine (ew_word.calls _ T _ _ _ hG4.out HW2.out).mono ?_; rintro e W5 ⟨rfl, b5⟩)
              | (go_at_call 44; refine (ew_word.calls _ s _ _ _ hGr.out HW.out).mono ?_; rintro e W2 ⟨rfl, b2⟩; have hI2 := bd_below hI b2)
              | (go_at_call 47; refine (strings_TrimLeft.calls (s.extract n s.size) ⟨#[32, 9]⟩ T _ HT.out).mono ?_; rintro e W4 ⟨rfl, b4⟩; have hG4 := hid (HG.out.below (hbw.trans ((b2.mono hbs).trans (b3.trans (b4.mono (by have := b2.size; have := b3.size; omega)))))))
              | (go_at_call 46; refine (bd_string w.heap.size w.heap.size (Lib.byteCells acc) X _ hI2 (by rw [Lib.byteCells_length]; omega) (by have := b2.size; omega)).mono ?_; rintro e W3 ⟨rfl, h3, b3, k3⟩; have hI3 : isBd w.heap.size w.heap.size (Lib.byteCells (acc ++ x)) W3 := (by rw [Lib.byteCells_append, ← hXb]; exact h3.is)))
            go_roundw
            case rel =>
              refine ⟨_, f, acc ++ x, rfl, bd_below (bd_below hI3 b4) b5, hbw.trans ((b2.mono hbs).trans (b3.trans ((b4.mono (by have := b2.size; have := b3.size; omega)).trans (b5.mono (by have := b2.size; have := b3.size; have := b4.size; omega))))), hnew, by omega, ?_⟩
              rw [List.length_append]; omega
            case measure => simp only [strLen]; omega
  · rw [if_neg hs] at h; exact absurd h (by simp)
end Go.Proofs.YtihabmcaplnbcaaDoor.Fn
set_option linter.unusedVariables false
set_option linter.unusedSimpArgs false
namespace Go.Proofs.YtihabmcaplnbcaaDoor.Pl
open Go.RowKit Go.Proofs.YtihabmcaplnbcaaDoorW.PrintWords
theorem encode_er (r : Nat) (h : r ≤ 1114111) : Utf8.encode (r : Int) = str (er r) := by
  have hb : ∀ (x : Int) (n : Nat), x = n → x.toNat.toUInt8 = UInt8.ofNat n := fun x n e => by rw [e]; rfl
  have ev : Utf8.valid (r : Int) = decide (r < 55296 ∨ (57344 ≤ r ∧ r ≤ 1114111)) := by
    unfold Utf8.valid
    rw [Bool.eq_iff_iff]
    simp
    omega
  unfold Utf8.encode
  rw [ev]
  by_cases hv : r < 55296 ∨ (57344 ≤ r ∧ r ≤ 1114111)
  · rw [decide_eq_true hv]
    simp only [if_true, Int.toNat_natCast]
    by_cases c1 : r < 128
    · rw [if_pos c1]
      unfold er Lib.encodeRune
      rw [Lib.encodeRuneZ_one (by omega) (by omega)]
      rfl
    · rw [if_neg c1]
      by_cases c2 : r < 2048
      · rw [if_pos c2]
        unfold er Lib.encodeRune
        rw [Lib.encodeRuneZ_two (by omega) (by omega)]
        simp only [List.map_cons, List.map_nil, hb (192 + (r : Int) / 64) (192 + r / 64) (by omega), hb (128 + (r : Int) % 64) (128 + r % 64) (by omega)]
        rfl
      · rw [if_neg c2]
        by_cases c3 : r < 65536
        · rw [if_pos c3]
          unfold er Lib.encodeRune
          rw [Lib.encodeRuneZ_three (by omega)]
          simp only [List.map_cons, List.map_nil, hb (224 + (r : Int) / 4096) (224 + r / 4096) (by omega), hb (128 + (r : Int) / 64 % 64) (128 + r / 64 % 64) (by omega), hb (128 + (r : Int) % 64) (128 + r % 64) (by omega)]
          rfl
        · rw [if_neg c3]
          unfold er Lib.encodeRune
          rw [Lib.encodeRuneZ_four (by omega) (by omega)]
          simp only [List.map_cons, List.map_nil, hb (240 + (r : Int) / 262144) (240 + r / 262144) (by omega), hb (128 + (r : Int) / 4096 % 64) (128 + r / 4096 % 64) (by omega), hb (128 + (r : Int) / 64 % 64) (128 + r / 64 % 64) (by omega), hb (128 + (r : Int) % 64) (128 + r % 64) (by omega)]
          rfl
  · rw [decide_eq_false hv]
    unfold er Lib.encodeRune
    rw [Lib.encodeRuneZ_bad (by omega)]
    have e : (if false = true then (r : Int).toNat else Utf8.runeError) = 65533 := rfl
    rw [e]
    decide
end Go.Proofs.YtihabmcaplnbcaaDoor.Pl
namespace Go.Proofs.YtihabmcaplnbcaaDoor.Fn
open Go.RowKit Go.Proofs.YtihabmcaplnbcaaDoorW.PrintWords

def ew_written.f (a0 : Int) : Option ByteArray := if 0 ≤ a0 ∧ a0 ≤ 1114111 then some (Pl.str (Pl.wrL a0.toNat)) else none
theorem hexL_len : ∀ l : Pl.Bytes, (Pl.hexL l).length = 3 * l.length
  | [] => rfl
  | c :: l => by
    show (Pl.hexC c ++ Pl.hexL l).length = _
    rw [List.length_append, hexL_len l, List.length_cons]
    show 3 + _ = _
    omega
theorem hex_at : ∀ n : Fin 16, (ByteArray.mk #[48, 49, 50, 51, 52, 53, 54, 55, 56, 57, 65, 66, 67, 68, 69, 70]).extract n.val (n.val + 1) = Pl.str [Pl.hexU n.val] := by decide +kernel
theorem bytes_below (w : World) (e : TypeId) (u : ByteArray) : Below w.heap.size w (Lib.bytesWorld w e u) := by
  refine ⟨rfl, rfl, rfl, by rw [Lib.bytesWorld_size]; omega, fun b hb => Lib.bytesWorld_at_old w _ u b hb⟩
set_option maxHeartbeats 4000000 in
set_option maxRecDepth 100000 in
theorem ew_hex (a0 : Int) (u : ByteArray) (hu : Utf8.encode a0 = u) (w : World) (h0 : 0 ≤ a0) (h1 : a0 < 48 ∨ (57 < a0 ∧ a0 < 65) ∨ (90 < a0 ∧ a0 < 97) ∨ 122 < a0) (h2 : a0 ≠ 33 ∧ a0 ≠ 42 ∧ a0 ≠ 43 ∧ a0 ≠ 45 ∧ a0 ≠ 47 ∧ a0 ≠ 32) :
    Calls Tryd.prog 41 #[.int .i32 a0] w fun e w' => e = .returned (.string (Pl.str (Pl.hexL (Pl.bs u)))) ∧ Below w.heap.size w w' := by
  have hsz : u.size ≤ 4 := by rw [← hu]; exact Go.encode_size_le _
  have c6 : (a0 = (33 : Int)) = False := eq_false (by omega)
  have c7 : (a0 = (42 : Int)) = False := eq_false (by omega)
  have c8 : (a0 = (43 : Int)) = False := eq_false (by omega)
  have c9 : (a0 = (45 : Int)) = False := eq_false (by omega)
  have c10 : (a0 = (47 : Int)) = False := eq_false (by omega)
  have c11 : (a0 = (32 : Int)) = False := eq_false (by omega)
  have d6 : (a0 == (33 : Int)) = false := beq_eq_false_iff_ne.2 (by omega)
  have d7 : (a0 == (42 : Int)) = false := beq_eq_false_iff_ne.2 (by omega)
  have d8 : (a0 == (43 : Int)) = false := beq_eq_false_iff_ne.2 (by omega)
  have d9 : (a0 == (45 : Int)) = false := beq_eq_false_iff_ne.2 (by omega)
  have d10 : (a0 == (47 : Int)) = false := beq_eq_false_iff_ne.2 (by omega)
  have d11 : (a0 == (32 : Int)) = false := beq_eq_false_iff_ne.2 (by omega)
  have hcv : ∀ W : World, (convert 9 83 (.string u)).run Tryd.prog W = _ := fun W => Lib.run_convert_string_bytes W 9 83 5 u Tryd.underlying9 Tryd.underlying83 Tryd.underlying5
  have hB : Below w.heap.size w (Lib.bytesWorld w 5 u) := bytes_below w _ u
  have hcl := Lib.bytesWorld_cell w 5 u
  rcases h1 with h1 | h1 | h1 | h1
  all_goals
    first | have c0 : ((97 : Int) ≤ a0) = True := eq_true (by omega) | have c0 : ((97 : Int) ≤ a0) = False := eq_false (by omega)
    first | have c1 : (a0 ≤ (122 : Int)) = True := eq_true (by omega) | have c1 : (a0 ≤ (122 : Int)) = False := eq_false (by omega)
    first | have c2 : ((65 : Int) ≤ a0) = True := eq_true (by omega) | have c2 : ((65 : Int) ≤ a0) = False := eq_false (by omega)
    first | have c3 : (a0 ≤ (90 : Int)) = True := eq_true (by omega) | have c3 : (a0 ≤ (90 : Int)) = False := eq_false (by omega)
    first | have c4 : ((48 : Int) ≤ a0) = True := eq_true (by omega) | have c4 : ((48 : Int) ≤ a0) = False := eq_false (by omega)
    first | have c5 : (a0 ≤ (57 : Int)) = True := eq_true (by omega) | have c5 : (a0 ≤ (57 : Int)) = False := eq_false (by omega)
    clear h1 h2
    go_enter Tryd.func41, Tryd.ntmps41
    go_wp2
    generalize Lib.bytesWorld w 5 u = W1 at hB hcl
    go_loopw [3, 59] (fun v3 v59 wr => ∃ k : Nat, k ≤ u.size ∧ v3 = .string (Pl.str (Pl.hexL ((Pl.bs u).take k))) ∧ v59 = .int .i64 k ∧ Below w.heap.size w wr ∧ ∀ j, j < u.size → wr.cell? ⟨w.heap.size, j, none⟩ = some (.int .u8 (u.data.toList.getD j 0).toNat)) (fun v3 v59 _ => u.size - (intOf v59).toNat)
    case atStart => exact ⟨0, Nat.zero_le _, rfl, rfl, hB, hcl⟩
    case round =>
      clear hB hcl
      obtain ⟨k, hk, rfl, rfl, hB, hcl⟩ := hrel
      by_cases hlt : k < u.size
      · obtain ⟨c, hc⟩ : ∃ c : UInt8, u.data.toList.getD k 0 = c := ⟨_, rfl⟩
        have hcell := hcl k hlt
        rw [hc] at hcell
        have hct := c.toNat_lt
        have HCL := hid hcl
        clear hcl
        have e1 : IntKind.u8.wrap ((c.toNat : Int) / 16 + 1) = (c.toNat : Int) / 16 + 1 := by rw [u8_w]; omega
        have e2 : IntKind.u8.wrap ((c.toNat : Int) % 16 + 1) = (c.toNat : Int) % 16 + 1 := by rw [u8_w]; omega
        have f1 : (0 ≤ (c.toNat : Int) / 16) = True := eq_true (by omega)
        have f2 : (0 ≤ (c.toNat : Int) % 16) = True := eq_true (by omega)
        have f3 : ((c.toNat : Int) / 16 ≤ (c.toNat : Int) / 16 + 1) = True := eq_true (by omega)
        have f4 : ((c.toNat : Int) % 16 ≤ (c.toNat : Int) % 16 + 1) = True := eq_true (by omega)
        have f5 : ((c.toNat : Int) / 16 + 1 ≤ 16) = True := eq_true (by omega)
        have f6 : ((c.toNat : Int) % 16 + 1 ≤ 16) = True := eq_true (by omega)
        obtain ⟨A, hA⟩ : ∃ A, Pl.str [Pl.hexU (c.toNat / 16)] = A := ⟨_, rfl⟩
        obtain ⟨B, hB'⟩ : ∃ B, Pl.str [Pl.hexU (c.toNat % 16)] = B := ⟨_, rfl⟩
        obtain ⟨T, hT⟩ : ∃ T, Pl.str (Pl.hexL ((Pl.bs u).take k)) = T := ⟨_, rfl⟩
        have g1 : (ByteArray.mk #[48, 49, 50, 51, 52, 53, 54, 55, 56, 57, 65, 66, 67, 68, 69, 70]).extract ((c.toNat : Int) / 16).toNat ((c.toNat : Int) / 16 + 1).toNat = A := by
          rw [← hA, show ((c.toNat : Int) / 16).toNat = c.toNat / 16 by omega, show ((c.toNat : Int) / 16 + 1).toNat = c.toNat / 16 + 1 by omega]
          exact hex_at ⟨c.toNat / 16, by omega⟩
        have g2 : (ByteArray.mk #[48, 49, 50, 51, 52, 53, 54, 55, 56, 57, 65, 66, 67, 68, 69, 70]).extract ((c.toNat : Int) % 16).toNat ((c.toNat : Int) % 16 + 1).toNat = B := by
          rw [← hB', show ((c.toNat : Int) % 16).toNat = c.toNat % 16 by omega, show ((c.toNat : Int) % 16 + 1).toNat = c.toNat % 16 + 1 by omega]
          exact hex_at ⟨c.toNat % 16, by omega⟩
        have z1 : A.size = 1 := by rw [← hA]; rfl
        have z2 : B.size = 1 := by rw [← hB']; rfl
        have z3 : T.size ≤ 12 := by
          rw [← hT, Pl.str_size, hexL_len, List.length_take]
          omega
        have z4 : ((⟨#[61]⟩ : ByteArray) ++ A).size = 2 := by rw [ByteArray.size_append, z1]; rfl
        have z5 : (((⟨#[61]⟩ : ByteArray) ++ A) ++ B).size = 3 := by rw [ByteArray.size_append, z4, z2]
        have z6 : (T ++ (((⟨#[61]⟩ : ByteArray) ++ A) ++ B)).size = T.size + 3 := by rw [ByteArray.size_append, z5]
        have hfin : T ++ (((⟨#[61]⟩ : ByteArray) ++ A) ++ B) = Pl.str (Pl.hexL ((Pl.bs u).take (k + 1))) := by
          have h1 : (Pl.bs u).take (k + 1) = (Pl.bs u).take k ++ [c] := by
            have h2 : k < (Pl.bs u).length := by rw [Pl.bs_length]; exact hlt
            rw [List.take_succ_eq_append_getElem h2]
            congr 2
            rw [← hc]
            simp [Pl.bs, List.getD, hlt]
          rw [h1, ← hT, ← hA, ← hB', show (⟨#[61]⟩ : ByteArray) = Pl.str [61] from rfl, Pl.str_app, Pl.str_app, Pl.str_app]
          simp [Pl.hexL, Pl.hexC]
        have HF := hid hfin
        have HC := hid hc
        clear hfin hA hB' hc
        rw [hT]
        go_wp2
        go_quiet (fail)
        go_wp2
        go_roundw
        case rel => exact ⟨k + 1, by omega, by rw [HF.out], by go_num, pw_below_drewN hB _, HCL.out⟩
        case measure => simp [intOf]; omega
      · have hend : Hid (Pl.str (Pl.hexL ((Pl.bs u).take k)) = Pl.str (Pl.hexL (Pl.bs u))) := by
          show _ = _
          rw [List.take_of_length_le (by rw [Pl.bs_length]; omega)]
        go_wp2
        go_ret
        refine ⟨?_, hB⟩
        rw [← hend.out]
        rfl
set_option maxHeartbeats 4000000 in
set_option maxRecDepth 100000 in
theorem ew_safe (a0 : Int) (w : World) (h : (97 ≤ a0 ∧ a0 ≤ 122) ∨ (65 ≤ a0 ∧ a0 ≤ 90) ∨ (48 ≤ a0 ∧ a0 ≤ 57) ∨ a0 = 33 ∨ a0 = 42 ∨ a0 = 43 ∨ a0 = 45 ∨ a0 = 47) :
    Calls Tryd.prog 41 #[.int .i32 a0] w fun e w' => e = .returned (.string (Utf8.encode a0)) ∧ Below w.heap.size w w' := by
  have hB := Below.refl w.heap.size w
  rcases h with ⟨h, h'⟩ | ⟨h, h'⟩ | ⟨h, h'⟩ | rfl | rfl | rfl | rfl | rfl
  all_goals
    first | (have c0 : ((97 : Int) ≤ a0) = True := eq_true (by omega)) | (have c0 : ((97 : Int) ≤ a0) = False := eq_false (by omega)) | skip
    first | (have c1 : (a0 ≤ (122 : Int)) = True := eq_true (by omega)) | skip
    first | (have c2 : ((65 : Int) ≤ a0) = True := eq_true (by omega)) | (have c2 : ((65 : Int) ≤ a0) = False := eq_false (by omega)) | skip
    first | (have c3 : (a0 ≤ (90 : Int)) = True := eq_true (by omega)) | skip
    first | (have c4 : ((48 : Int) ≤ a0) = True := eq_true (by omega)) | skip
    first | (have c5 : (a0 ≤ (57 : Int)) = True := eq_true (by omega)) | skip
    go_enter Tryd.func41, Tryd.ntmps41
    go_wp2
    go_ret
    exact ⟨rfl, hB⟩
set_option maxHeartbeats 4000000 in
set_option maxRecDepth 100000 in
theorem ew_blank (w : World) : Calls Tryd.prog 41 #[.int .i32 32] w fun e w' => e = .returned (.string ⟨#[95]⟩) ∧ Below w.heap.size w w' := by
  have hB := Below.refl w.heap.size w
  go_enter Tryd.func41, Tryd.ntmps41
  go_wp2
  go_ret
  exact ⟨rfl, hB⟩
theorem ew_written.calls (a0 : Int) (r : ByteArray) (w : World) (h : ew_written.f a0 = some r) :
    Calls Tryd.prog 41 #[.int .i32 a0] w fun e w' => e = .returned (.string r) ∧ Below w.heap.size w w' := by
  unfold ew_written.f at h
  by_cases hs : 0 ≤ a0 ∧ a0 ≤ 1114111
  · rw [if_pos hs] at h
    have HR := Option.some.inj h
    subst HR
    obtain ⟨n, rfl⟩ : ∃ n : Nat, a0 = n := ⟨a0.toNat, by omega⟩
    have he := Pl.encode_er n (by omega)
    rw [Int.toNat_natCast]
    by_cases hf : Pl.safeR n = true
    · have hlt : n < 128 := by simp [Pl.safeR] at hf; omega
      have e : Pl.str (Pl.wrL n) = Utf8.encode (n : Int) := by
        rw [he, Pl.wrL, if_pos hf]
        unfold Pl.er Lib.encodeRune
        rw [Lib.encodeRuneZ_one (by omega) (by omega)]
        rfl
      rw [e]
      exact ew_safe n w (by simp [Pl.safeR] at hf; omega)
    · by_cases h32 : n = 32
      · subst h32
        exact ew_blank w
      · have e : Pl.str (Pl.wrL n) = Pl.str (Pl.hexL (Pl.bs (Utf8.encode (n : Int)))) := by rw [he, Pl.bs_str, Pl.wrL, if_neg hf, if_neg h32]
        rw [e]
        have hf' : ¬ ((97 ≤ n ∧ n ≤ 122) ∨ (65 ≤ n ∧ n ≤ 90) ∨ (48 ≤ n ∧ n ≤ 57) ∨ n = 33 ∨ n = 42 ∨ n = 43 ∨ n = 45 ∨ n = 47) := fun hh => hf (by simp [Pl.safeR]; exact hh)
        exact ew_hex n _ rfl w (by omega) (by omega) (by omega)
  · rw [if_neg hs] at h; exact absurd h (by simp)
end Go.Proofs.YtihabmcaplnbcaaDoor.Fn
set_option linter.unusedVariables false
namespace Go.Proofs.YtihabmcaplnbcaaDoor.Fn
open Go.RowKit Go.Proofs.YtihabmcaplnbcaaDoorW.PrintWords

def strings_Contains.f (a0 a1 : ByteArray) : Option Bool := if a0.size < 4294967281 then some (Lib.contains a0.data.toList a1.data.toList) else none
theorem strings_Contains.calls (a0 a1 : ByteArray) (r : Bool) (w : World) (hG : Glob w) (h : strings_Contains.f a0 a1 = some r) :
    Calls Tryd.prog 40 #[.string a0, .string a1] w fun e w' => e = .returned (.bool r) ∧ Below w.heap.size w w' := by
  unfold strings_Contains.f at h
  by_cases hs : a0.size < 4294967281
  · rw [if_pos hs] at h
    have HR := Option.some.inj h
    subst HR
    obtain ⟨m, hm⟩ := hG.max
    refine (Tryd.strings_Contains a0 a1 m w hs hm).mono ?_
    rintro e w' ⟨rfl, rfl⟩
    exact ⟨rfl, Below.refl _ _⟩
  · rw [if_neg hs] at h
    exact absurd h (by simp)
end Go.Proofs.YtihabmcaplnbcaaDoor.Fn
set_option linter.unusedVariables false
set_option linter.unusedSimpArgs false
namespace Go.Proofs.YtihabmcaplnbcaaDoor.Fn
open Go.RowKit Go.Proofs.YtihabmcaplnbcaaDoorW.PrintWords

def ew_Encode.f (a0 : ByteArray) : Option ByteArray := if a0.size ≤ 1000000000 then some (Pl.str (Pl.encL a0)) else none
theorem dec_le (s : ByteArray) (i : Nat) : (Utf8.decode s i).1 ≤ 1114111 := by
  have g0 := (s.get! i).toNat_lt
  rw [Lib.decode_at]
  unfold Lib.decodeN
  repeat' split
  all_goals (simp only []; omega)
theorem rawFrom_end (s : ByteArray) (f pos : Nat) (h : ¬ pos < s.size) : Pl.rawFrom s f pos = [] := by
  cases f with
  | zero => rfl
  | succ f => rw [Pl.rawFrom, if_neg h]
theorem wrL_len (r : Nat) : (Pl.wrL r).length ≤ 12 := by
  unfold Pl.wrL
  split
  · simp
  · split
    · simp
    · rw [hexL_len]
      have : (Pl.er r).length ≤ 4 := by
        have := Lib.encodeRuneZ_length (r : Int)
        unfold Pl.er Lib.encodeRune
        simpa using this.2
      omega
set_option maxHeartbeats 4000000 in
set_option maxRecDepth 100000 in
theorem ew_Encode.calls (a0 r : ByteArray) (w : World) (hG : Glob w) (h : ew_Encode.f a0 = some r) :
    Calls Tryd.prog 17 #[.string a0] w fun e w' => e = .returned (.string r) ∧ Below w.heap.size w w' := by
  unfold ew_Encode.f at h
  by_cases hs : a0.size ≤ 1000000000
  · rw [if_pos hs] at h
    have HR := hid (Option.some.inj h)
    clear h
    have hp1 : glyph_Plain.f a0 = some (Pl.plain a0) := by unfold glyph_Plain.f; rw [if_pos (by omega)]
    have hp2 : strings_Contains.f a0 ⟨#[61, 63]⟩ = some (Lib.contains (Pl.bs a0) [61, 63]) := by unfold strings_Contains.f; rw [if_pos (by omega)]; rfl
    have hcase : (Pl.plain a0 = true ∧ Lib.contains (Pl.bs a0) [61, 63] = false) ∨ (Pl.encL a0 = Pl.encW (Pl.rawFrom a0 a0.size 0) [] [] ∧ (Pl.plain a0 = false ∨ (Pl.plain a0 = true ∧ Lib.contains (Pl.bs a0) [61, 63] = true))) := by
      cases h1 : Pl.plain a0 <;> cases h2 : Lib.contains (Pl.bs a0) [61, 63] <;> simp [Pl.encL, h1, h2]
    rcases hcase with ⟨h1, h2⟩ | ⟨he, hh⟩
    · rw [h1] at hp1
      rw [h2] at hp2
      have hE : Hid (Pl.encL a0 = Pl.bs a0) := by
        show _ = _
        unfold Pl.encL
        rw [if_pos ⟨h1, h2⟩]
      have HP1 := hid hp1
      have HP2 := hid hp2
      have HG := hid hG
      clear hp1 hp2 h1 h2 hG
      go_enter Tryd.func17, Tryd.ntmps17
      go_wp2_with (first | (go_at_call 21; refine (glyph_Plain.calls a0 true _ HP1.out).mono ?_; rintro e W0 ⟨rfl, b0⟩; have hG0 := hid (HG.out.below b0)) | (go_at_call 40; refine (strings_Contains.calls a0 ⟨#[61, 63]⟩ false _ hG0.out HP2.out).mono ?_; rintro e W1 ⟨rfl, b1⟩))
      go_ret
      refine ⟨?_, b0.trans (b1.mono b0.size)⟩
      rw [← HR.out, hE.out, Pl.str_bs]
      rfl
    · have HE := hid he
      have HG := hid hG
      have HP1 := hid hp1
      have HP2 := hid hp2
      clear hp1 hp2 he hG
      rcases hh with h1 | ⟨h1, h2⟩
      · rw [h1] at HP1
        clear h1
        go_enter Tryd.func17, Tryd.ntmps17
        go_wp2_with (go_at_call 21; refine (glyph_Plain.calls a0 false _ HP1.out).mono ?_; rintro e W1 ⟨rfl, hB⟩)
        go_loopw [3, 4] (fun v3 v4 wr => ∃ (pos fuel : Nat) (O U : ByteArray), v3 = .string O ∧ v4 = .string U ∧ wr.heap[W1.heap.size]? = some (.stringIter a0 pos) ∧ Below w.heap.size w wr ∧ Hid (Pl.encW (Pl.rawFrom a0 fuel pos) (Pl.bs O) (Pl.bs U) = Pl.encL a0) ∧ a0.size ≤ pos + fuel ∧ O.size ≤ 100 * pos ∧ U.size ≤ 63 ∧ pos ≤ a0.size) (fun v3 v4 wr => a0.size - wr.iterPos W1.heap.size)
        case atStart =>
          refine ⟨0, a0.size, ⟨#[]⟩, ⟨#[]⟩, rfl, rfl, ?_, hB.alloc (by have := hB.size; omega) _, HE.out.symm, by omega, by decide, by decide, by omega⟩
          have := World.iter_heap W1 a0 0
          simpa using this
        case round =>
          obtain ⟨pos, fuel, O, U, rfl, rfl, hit, hbw, hacc, hfu, hO, hU, hpl⟩ := hrel
          have hsz : W1.heap.size < wr.heap.size := (Array.getElem?_eq_some_iff.1 hit).1
          have hB1 := hB.size
          have k2 : (⟨#[63, 61]⟩ : ByteArray).size = 2 := rfl
          have k1 : (⟨#[32]⟩ : ByteArray).size = 1 := rfl
          have k10 : (⟨#[61, 63, 117, 116, 102, 45, 56, 63, 113, 63]⟩ : ByteArray).size = 10 := rfl
          by_cases hp : pos < a0.size
          · have hnx : ∀ ty, (Instr.next (.pointer (some ⟨W1.heap.size, 0, none⟩)) true ty).run Tryd.prog wr = _ := fun ty => Lib.run_next_any_at wr W1.heap.size a0 pos ty hit hp
            have hwd : 1 ≤ (Utf8.decode a0 pos).2 := Pl.width_pos a0 pos hp
            have hwe := Pl.width_end a0 pos hp
            have hd1 := dec_le a0 pos
            have hit2 := Lib.iterAt_heap wr W1.heap.size a0 pos (pos + (Utf8.decode a0 pos).2) hit
            have hbw2 := Lib.below_iterAt hbw (k := W1.heap.size) (by omega) a0 (pos + (Utf8.decode a0 pos).2)
            obtain ⟨f, rfl⟩ : ∃ f, fuel = f + 1 := ⟨fuel - 1, by omega⟩
            obtain ⟨T, hT⟩ : ∃ T, Pl.str (Pl.wrL (Utf8.decode a0 pos).1) = T := ⟨_, rfl⟩
            have hbT : Pl.bs T = Pl.wrL (Utf8.decode a0 pos).1 := by rw [← hT, Pl.bs_str]
            have hzT : T.size ≤ 12 := by
              have := wrL_len (Utf8.decode a0 pos).1
              rw [← hT, Pl.str_size]
              exact this
            have hw : Hid (ew_written.f ((Utf8.decode a0 pos).1 : Int) = some T) := by
              show _ = _
              unfold ew_written.f
              rw [if_pos ⟨by omega, by omega⟩, Int.toNat_natCast, hT]
            have hstep : Hid (Pl.rawFrom a0 (f + 1) pos = (Utf8.decode a0 pos).1 :: Pl.rawFrom a0 f (pos + (Utf8.decode a0 pos).2)) := by
              show _ = _
              rw [Pl.rawFrom, if_pos hp]
            rw [hstep.out, Pl.encW, ← hbT, Pl.bs_length, Pl.bs_length] at hacc
            by_cases hbrk : 63 < U.size + T.size
            · rw [if_pos hbrk] at hacc
              have d0 : decide ((63 : Int) < (U.size : Int) + (T.size : Int)) = true := decide_eq_true (by omega)
              have z1 : ((⟨#[61, 63, 117, 116, 102, 45, 56, 63, 113, 63]⟩ : ByteArray) ++ U).size = 10 + U.size := by rw [ByteArray.size_append, k10]
              have z2 : (((⟨#[61, 63, 117, 116, 102, 45, 56, 63, 113, 63]⟩ : ByteArray) ++ U) ++ ⟨#[63, 61]⟩).size = 12 + U.size := by rw [ByteArray.size_append, z1, k2]; omega
              have z3 : ((((⟨#[61, 63, 117, 116, 102, 45, 56, 63, 113, 63]⟩ : ByteArray) ++ U) ++ ⟨#[63, 61]⟩) ++ ⟨#[32]⟩).size = 13 + U.size := by rw [ByteArray.size_append, z2, k1]; omega
              have z4 : (O ++ ((((⟨#[61, 63, 117, 116, 102, 45, 56, 63, 113, 63]⟩ : ByteArray) ++ U) ++ ⟨#[63, 61]⟩) ++ ⟨#[32]⟩)).size = O.size + (13 + U.size) := by rw [ByteArray.size_append, z3]
              have z5 : ((⟨#[]⟩ : ByteArray) ++ T).size = T.size := by rw [ByteArray.size_append]; exact Nat.zero_add _
              have hnew : Hid (Pl.encW (Pl.rawFrom a0 f (pos + (Utf8.decode a0 pos).2)) (Pl.bs (O ++ ((((⟨#[61, 63, 117, 116, 102, 45, 56, 63, 113, 63]⟩ : ByteArray) ++ U) ++ ⟨#[63, 61]⟩) ++ ⟨#[32]⟩))) (Pl.bs ((⟨#[]⟩ : ByteArray) ++ T)) = Pl.encL a0) := by
                show _ = _
                rw [← hacc]
                simp only [Pl.bs_app]
                simp [Pl.bs, Pl.frontL, Pl.shutL]
              clear hacc hstep hT hbT
              go_wp2_with (go_at_call 41; refine (ew_written.calls _ T _ hw.out).mono ?_; rintro e W2 ⟨rfl, b2⟩)
              go_roundw
              case rel =>
                refine ⟨pos + (Utf8.decode a0 pos).2, f, _, _, rfl, rfl, (b2.block _ (by rw [Lib.iterAt_size]; exact hsz)).trans hit2, hbw2.trans (b2.mono (by rw [Lib.iterAt_size]; omega)), hnew, by omega, ?_, ?_, hwe⟩
                · rw [z4]; omega
                · rw [z5]; omega
              case measure =>
                have := (b2.block W1.heap.size (by rw [Lib.iterAt_size]; exact hsz)).trans hit2
                simp only [World.iterPos, this, hit]
                omega
            · rw [if_neg hbrk] at hacc
              have d0 : decide ((63 : Int) < (U.size : Int) + (T.size : Int)) = false := decide_eq_false (by omega)
              have z5 : (U ++ T).size = U.size + T.size := by rw [ByteArray.size_append]
              have hnew : Hid (Pl.encW (Pl.rawFrom a0 f (pos + (Utf8.decode a0 pos).2)) (Pl.bs O) (Pl.bs (U ++ T)) = Pl.encL a0) := by
                show _ = _
                rw [← hacc, Pl.bs_app]
              clear hacc hstep hT hbT
              go_wp2_with (go_at_call 41; refine (ew_written.calls _ T _ hw.out).mono ?_; rintro e W2 ⟨rfl, b2⟩)
              go_roundw
              case rel =>
                refine ⟨pos + (Utf8.decode a0 pos).2, f, _, _, rfl, rfl, (b2.block _ (by rw [Lib.iterAt_size]; exact hsz)).trans hit2, hbw2.trans (b2.mono (by rw [Lib.iterAt_size]; omega)), hnew, by omega, by omega, ?_, hwe⟩
                rw [z5]; omega
              case measure =>
                have := (b2.block W1.heap.size (by rw [Lib.iterAt_size]; exact hsz)).trans hit2
                simp only [World.iterPos, this, hit]
                omega
          · have hnx : ∀ ty, (Instr.next (.pointer (some ⟨W1.heap.size, 0, none⟩)) true ty).run Tryd.prog wr = _ := fun ty => Lib.run_next_end_at wr W1.heap.size a0 pos ty hit hp
            rw [rawFrom_end _ _ _ hp] at hacc
            have z1 : (O ++ (⟨#[61, 63, 117, 116, 102, 45, 56, 63, 113, 63]⟩ : ByteArray)).size = O.size + 10 := by rw [ByteArray.size_append, k10]
            have z2 : ((O ++ (⟨#[61, 63, 117, 116, 102, 45, 56, 63, 113, 63]⟩ : ByteArray)) ++ U).size = O.size + 10 + U.size := by rw [ByteArray.size_append, z1]
            have z3 : (((O ++ (⟨#[61, 63, 117, 116, 102, 45, 56, 63, 113, 63]⟩ : ByteArray)) ++ U) ++ ⟨#[63, 61]⟩).size = O.size + 10 + U.size + 2 := by rw [ByteArray.size_append, z2, k2]
            have hend : Hid (((O ++ (⟨#[61, 63, 117, 116, 102, 45, 56, 63, 113, 63]⟩ : ByteArray)) ++ U) ++ ⟨#[63, 61]⟩ = r) := by
              show _ = _
              rw [← HR.out, ← hacc.out]
              apply Pl.bs_inj
              rw [Pl.bs_str, Pl.encW]
              simp only [Pl.bs_app]
              simp [Pl.bs, Pl.frontL, Pl.shutL]
            clear hacc
            go_wp2
            go_ret
            exact ⟨by rw [← hend.out]; rfl, hbw⟩
      · rw [h1] at HP1
        rw [h2] at HP2
        clear h1 h2
        go_enter Tryd.func17, Tryd.ntmps17
        go_wp2_with (first | (go_at_call 21; refine (glyph_Plain.calls a0 true _ HP1.out).mono ?_; rintro e W0 ⟨rfl, b0⟩; have hG0 := hid (HG.out.below b0)) | (go_at_call 40; refine (strings_Contains.calls a0 ⟨#[61, 63]⟩ true _ hG0.out HP2.out).mono ?_; rintro e W1 ⟨rfl, b1⟩; have hB := b0.trans (b1.mono b0.size)))
        go_loopw [3, 4] (fun v3 v4 wr => ∃ (pos fuel : Nat) (O U : ByteArray), v3 = .string O ∧ v4 = .string U ∧ wr.heap[W1.heap.size]? = some (.stringIter a0 pos) ∧ Below w.heap.size w wr ∧ Hid (Pl.encW (Pl.rawFrom a0 fuel pos) (Pl.bs O) (Pl.bs U) = Pl.encL a0) ∧ a0.size ≤ pos + fuel ∧ O.size ≤ 100 * pos ∧ U.size ≤ 63 ∧ pos ≤ a0.size) (fun v3 v4 wr => a0.size - wr.iterPos W1.heap.size)
        case atStart =>
          refine ⟨0, a0.size, ⟨#[]⟩, ⟨#[]⟩, rfl, rfl, ?_, hB.alloc (by have := hB.size; omega) _, HE.out.symm, by omega, by decide, by decide, by omega⟩
          have := World.iter_heap W1 a0 0
          simpa using this
        case round =>
          obtain ⟨pos, fuel, O, U, rfl, rfl, hit, hbw, hacc, hfu, hO, hU, hpl⟩ := hrel
          have hsz : W1.heap.size < wr.heap.size := (Array.getElem?_eq_some_iff.1 hit).1
          have hB1 := hB.size
          have k2 : (⟨#[63, 61]⟩ : ByteArray).size = 2 := rfl
          have k1 : (⟨#[32]⟩ : ByteArray).size = 1 := rfl
          have k10 : (⟨#[61, 63, 117, 116, 102, 45, 56, 63, 113, 63]⟩ : ByteArray).size = 10 := rfl
          by_cases hp : pos < a0.size
          · have hnx : ∀ ty, (Instr.next (.pointer (some ⟨W1.heap.size, 0, none⟩)) true ty).run Tryd.prog wr = _ := fun ty => Lib.run_next_any_at wr W1.heap.size a0 pos ty hit hp
            have hwd : 1 ≤ (Utf8.decode a0 pos).2 := Pl.width_pos a0 pos hp
            have hwe := Pl.width_end a0 pos hp
            have hd1 := dec_le a0 pos
            have hit2 := Lib.iterAt_heap wr W1.heap.size a0 pos (pos + (Utf8.decode a0 pos).2) hit
            have hbw2 := Lib.below_iterAt hbw (k := W1.heap.size) (by omega) a0 (pos + (Utf8.decode a0 pos).2)
            obtain ⟨f, rfl⟩ : ∃ f, fuel = f + 1 := ⟨fuel - 1, by omega⟩
            obtain ⟨T, hT⟩ : ∃ T, Pl.str (Pl.wrL (Utf8.decode a0 pos).1) = T := ⟨_, rfl⟩
            have hbT : Pl.bs T = Pl.wrL (Utf8.decode a0 pos).1 := by rw [← hT, Pl.bs_str]
            have hzT : T.size ≤ 12 := by
              have := wrL_len (Utf8.decode a0 pos).1
              rw [← hT, Pl.str_size]
              exact this
            have hw : Hid (ew_written.f ((Utf8.decode a0 pos).1 : Int) = some T) := by
              show _ = _
              unfold ew_written.f
              rw [if_pos ⟨by omega, by omega⟩, Int.toNat_natCast, hT]
            have hstep : Hid (Pl.rawFrom a0 (f + 1) pos = (Utf8.decode a0 pos).1 :: Pl.rawFrom a0 f (pos + (Utf8.decode a0 pos).2)) := by
              show _ = _
              rw [Pl.rawFrom, if_pos hp]
            rw [hstep.out, Pl.encW, ← hbT, Pl.bs_length, Pl.bs_length] at hacc
            by_cases hbrk : 63 < U.size + T.size
            · rw [if_pos hbrk] at hacc
              have d0 : decide ((63 : Int) < (U.size : Int) + (T.size : Int)) = true := decide_eq_true (by omega)
              have z1 : ((⟨#[61, 63, 117, 116, 102, 45, 56, 63, 113, 63]⟩ : ByteArray) ++ U).size = 10 + U.size := by rw [ByteArray.size_append, k10]
              have z2 : (((⟨#[61, 63, 117, 116, 102, 45, 56, 63, 113, 63]⟩ : ByteArray) ++ U) ++ ⟨#[63, 61]⟩).size = 12 + U.size := by rw [ByteArray.size_append, z1, k2]; omega
              have z3 : ((((⟨#[61, 63, 117, 116, 102, 45, 56, 63, 113, 63]⟩ : ByteArray) ++ U) ++ ⟨#[63, 61]⟩) ++ ⟨#[32]⟩).size = 13 + U.size := by rw [ByteArray.size_append, z2, k1]; omega
              have z4 : (O ++ ((((⟨#[61, 63, 117, 116, 102, 45, 56, 63, 113, 63]⟩ : ByteArray) ++ U) ++ ⟨#[63, 61]⟩) ++ ⟨#[32]⟩)).size = O.size + (13 + U.size) := by rw [ByteArray.size_append, z3]
              have z5 : ((⟨#[]⟩ : ByteArray) ++ T).size = T.size := by rw [ByteArray.size_append]; exact Nat.zero_add _
              have hnew : Hid (Pl.encW (Pl.rawFrom a0 f (pos + (Utf8.decode a0 pos).2)) (Pl.bs (O ++ ((((⟨#[61, 63, 117, 116, 102, 45, 56, 63, 113, 63]⟩ : ByteArray) ++ U) ++ ⟨#[63, 61]⟩) ++ ⟨#[32]⟩))) (Pl.bs ((⟨#[]⟩ : ByteArray) ++ T)) = Pl.encL a0) := by
                show _ = _
                rw [← hacc]
                simp only [Pl.bs_app]
                simp [Pl.bs, Pl.frontL, Pl.shutL]
              clear hacc hstep hT hbT
              go_wp2_with (go_at_call 41; refine (ew_written.calls _ T _ hw.out).mono ?_; rintro e W2 ⟨rfl, b2⟩)
              go_roundw
              case rel =>
                refine ⟨pos + (Utf8.decode a0 pos).2, f, _, _, rfl, rfl, (b2.block _ (by rw [Lib.iterAt_size]; exact hsz)).trans hit2, hbw2.trans (b2.mono (by rw [Lib.iterAt_size]; omega)), hnew, by omega, ?_, ?_, hwe⟩
                · rw [z4]; omega
                · rw [z5]; omega
              case measure =>
                have := (b2.block W1.heap.size (by rw [Lib.iterAt_size]; exact hsz)).trans hit2
                simp only [World.iterPos, this, hit]
                omega
            · rw [if_neg hbrk] at hacc
              have d0 : decide ((63 : Int) < (U.size : Int) + (T.size : Int)) = false := decide_eq_false (by omega)
              have z5 : (U ++ T).size = U.size + T.size := by rw [ByteArray.size_append]
              have hnew : Hid (Pl.encW (Pl.rawFrom a0 f (pos + (Utf8.decode a0 pos).2)) (Pl.bs O) (Pl.bs (U ++ T)) = Pl.encL a0) := by
                show _ = _
                rw [← hacc, Pl.bs_app]
              clear hacc hstep hT hbT
              go_wp2_with (go_at_call 41; refine (ew_written.calls _ T _ hw.out).mono ?_; rintro e W2 ⟨rfl, b2⟩)
              go_roundw
              case rel =>
                refine ⟨pos + (Utf8.decode a0 pos).2, f, _, _, rfl, rfl, (b2.block _ (by rw [Lib.iterAt_size]; exact hsz)).trans hit2, hbw2.trans (b2.mono (by rw [Lib.iterAt_size]; omega)), hnew, by omega, by omega, ?_, hwe⟩
                rw [z5]; omega
              case measure =>
                have := (b2.block W1.heap.size (by rw [Lib.iterAt_size]; exact hsz)).trans hit2
                simp only [World.iterPos, this, hit]
                omega
          · have hnx : ∀ ty, (Instr.next (.pointer (some ⟨W1.heap.size, 0, none⟩)) true ty).run Tryd.prog wr = _ := fun ty => Lib.run_next_end_at wr W1.heap.size a0 pos ty hit hp
            rw [rawFrom_end _ _ _ hp] at hacc
            have z1 : (O ++ (⟨#[61, 63, 117, 116, 102, 45, 56, 63, 113, 63]⟩ : ByteArray)).size = O.size + 10 := by rw [ByteArray.size_append, k10]
            have z2 : ((O ++ (⟨#[61, 63, 117, 116, 102, 45, 56, 63, 113, 63]⟩ : ByteArray)) ++ U).size = O.size + 10 + U.size := by rw [ByteArray.size_append, z1]
            have z3 : (((O ++ (⟨#[61, 63, 117, 116, 102, 45, 56, 63, 113, 63]⟩ : ByteArray)) ++ U) ++ ⟨#[63, 61]⟩).size = O.size + 10 + U.size + 2 := by rw [ByteArray.size_append, z2, k2]
            have hend : Hid (((O ++ (⟨#[61, 63, 117, 116, 102, 45, 56, 63, 113, 63]⟩ : ByteArray)) ++ U) ++ ⟨#[63, 61]⟩ = r) := by
              show _ = _
              rw [← HR.out, ← hacc.out]
              apply Pl.bs_inj
              rw [Pl.bs_str, Pl.encW]
              simp only [Pl.bs_app]
              simp [Pl.bs, Pl.frontL, Pl.shutL]
            clear hacc
            go_wp2
            go_ret
            exact ⟨by rw [← hend.out]; rfl, hbw⟩
  · rw [if_neg hs] at h; exact absurd h (by simp)
end Go.Proofs.YtihabmcaplnbcaaDoor.Fn
set_option linter.unusedVariables false
namespace Go.Proofs.YtihabmcaplnbcaaDoor.Fn
open Go.RowKit Go.Proofs.YtihabmcaplnbcaaDoorW.PrintWords

def strings_Trim.f (a0 a1 : ByteArray) : Option ByteArray :=
  if a0.size ≤ 140737488355328 then (if a1.size ≤ 1000 then (if a1.data.toList.all (fun b => decide (b.toNat < 128)) = true then some (Pl.str (Lib.trimS a0.data.toList a1.data.toList)) else none) else none) else none
theorem strings_Trim.calls (a0 a1 r : ByteArray) (w : World) (h : strings_Trim.f a0 a1 = some r) :
    Calls Tryd.prog 58 #[.string a0, .string a1] w fun e w' => e = .returned (.string r) ∧ Below w.heap.size w w' := by
  unfold strings_Trim.f at h
  by_cases hs : a0.size ≤ 140737488355328
  · rw [if_pos hs] at h
    by_cases hc : a1.size ≤ 1000
    · rw [if_pos hc] at h
      by_cases ha : a1.data.toList.all (fun b => decide (b.toNat < 128)) = true
      · rw [if_pos ha] at h
        have HR := Option.some.inj h
        subst HR
        exact Any.strings_Trim_laid Tryd.lays160 (by kernel_rfl) a0 a1 w (by omega) (by omega) (ascii_of_all ha)
      · rw [if_neg ha] at h; exact absurd h (by simp)
    · rw [if_neg hc] at h; exact absurd h (by simp)
  · rw [if_neg hs] at h; exact absurd h (by simp)
end Go.Proofs.YtihabmcaplnbcaaDoor.Fn
namespace Go.Proofs.YtihabmcaplnbcaaDoor.Fn
open Go.RowKit Go.Proofs.YtihabmcaplnbcaaDoorW.PrintWords Go.Proofs.YtihabmcaplnbcaaDoorW.PrintLast Go.Proofs.YtihabmcaplnbcaaDoorW.PrintMore
attribute [local go_sem] max2_int min2_int max_two min_two max_three min_three max_four min_four
set_option linter.unusedVariables false
set_option linter.unusedSimpArgs false

/-! ### dress_Subject: function 25 -/
def dress_Subject.f (a0 : ByteArray) (a1 : ByteArray) : Option (ByteArray) := (ew_Decode.f a1).bind fun t534 => ((glyph_Clean.f t534).bind fun t535 => ((glyph_Fold.f t535).bind fun t536 => ((dress_tag.f a0).bind fun t537 => ((strings_Contains.f t536 t537).bind fun t538 => (if t538 = true then (some a1) else ((dress_tag.f a0).bind fun t539 => (if t539.size + 1 ≤ 9223372036854775807 then ((strings_Trim.f t535 (⟨#[32]⟩ : ByteArray)).bind fun t540 => (if (t539 ++ (⟨#[32]⟩ : ByteArray)).size + t540.size ≤ 9223372036854775807 then ((strings_TrimRight.f ((t539 ++ (⟨#[32]⟩ : ByteArray)) ++ t540) (⟨#[32]⟩ : ByteArray)).bind fun t541 => ((ew_Encode.f t541).bind fun t542 => (some t542))) else (none))) else (none))))))))
set_option maxHeartbeats 8000000 in
set_option maxRecDepth 100000 in
theorem dress_Subject.calls (a0 : ByteArray) (a1 : ByteArray) (r : ByteArray) (w : World) (hG : Glob w) (h : dress_Subject.f a0 a1 = some r) :
  Calls Tryd.prog 25 #[.string a0, .string a1] w fun e w' => e = .returned (.string r) ∧ Below w.heap.size w w' := by
 have HB := Aside0.mk (Below.refl w.heap.size w)
 have H : ((ew_Decode.f a1).bind fun t534 => ((glyph_Clean.f t534).bind fun t535 => ((glyph_Fold.f t535).bind fun t536 => ((dress_tag.f a0).bind fun t537 => ((strings_Contains.f t536 t537).bind fun t538 => (if t538 = true then (some a1) else ((dress_tag.f a0).bind fun t539 => (if t539.size + 1 ≤ 9223372036854775807 then ((strings_Trim.f t535 (⟨#[32]⟩ : ByteArray)).bind fun t540 => (if (t539 ++ (⟨#[32]⟩ : ByteArray)).size + t540.size ≤ 9223372036854775807 then ((strings_TrimRight.f ((t539 ++ (⟨#[32]⟩ : ByteArray)) ++ t540) (⟨#[32]⟩ : ByteArray)).bind fun t541 => ((ew_Encode.f t541).bind fun t542 => (some t542))) else (none))) else (none))))))))) = some r := h
 clear h
 replace H := Option.bind_eq_some_iff.mp H
 obtain ⟨t534, A30, H⟩ := H
 replace H : ((glyph_Clean.f t534).bind fun t535 => ((glyph_Fold.f t535).bind fun t536 => ((dress_tag.f a0).bind fun t537 => ((strings_Contains.f t536 t537).bind fun t538 => (if t538 = true then (some a1) else ((dress_tag.f a0).bind fun t539 => (if t539.size + 1 ≤ 9223372036854775807 then ((strings_Trim.f t535 (⟨#[32]⟩ : ByteArray)).bind fun t540 => (if (t539 ++ (⟨#[32]⟩ : ByteArray)).size + t540.size ≤ 9223372036854775807 then ((strings_TrimRight.f ((t539 ++ (⟨#[32]⟩ : ByteArray)) ++ t540) (⟨#[32]⟩ : ByteArray)).bind fun t541 => ((ew_Encode.f t541).bind fun t542 => (some t542))) else (none))) else (none)))))))) = some r := H
 have A3 := Aside0.mk A30
 clear A30
 replace H := Option.bind_eq_some_iff.mp H
 obtain ⟨t535, A40, H⟩ := H
 replace H : ((glyph_Fold.f t535).bind fun t536 => ((dress_tag.f a0).bind fun t537 => ((strings_Contains.f t536 t537).bind fun t538 => (if t538 = true then (some a1) else ((dress_tag.f a0).bind fun t539 => (if t539.size + 1 ≤ 9223372036854775807 then ((strings_Trim.f t535 (⟨#[32]⟩ : ByteArray)).bind fun t540 => (if (t539 ++ (⟨#[32]⟩ : ByteArray)).size + t540.size ≤ 9223372036854775807 then ((strings_TrimRight.f ((t539 ++ (⟨#[32]⟩ : ByteArray)) ++ t540) (⟨#[32]⟩ : ByteArray)).bind fun t541 => ((ew_Encode.f t541).bind fun t542 => (some t542))) else (none))) else (none))))))) = some r := H
 have A4 := Aside0.mk A40
 clear A40
 replace H := Option.bind_eq_some_iff.mp H
 obtain ⟨t536, A50, H⟩ := H
 replace H : ((dress_tag.f a0).bind fun t537 => ((strings_Contains.f t536 t537).bind fun t538 => (if t538 = true then (some a1) else ((dress_tag.f a0).bind fun t539 => (if t539.size + 1 ≤ 9223372036854775807 then ((strings_Trim.f t535 (⟨#[32]⟩ : ByteArray)).bind fun t540 => (if (t539 ++ (⟨#[32]⟩ : ByteArray)).size + t540.size ≤ 9223372036854775807 then ((strings_TrimRight.f ((t539 ++ (⟨#[32]⟩ : ByteArray)) ++ t540) (⟨#[32]⟩ : ByteArray)).bind fun t541 => ((ew_Encode.f t541).bind fun t542 => (some t542))) else (none))) else (none)))))) = some r := H
 have A5 := Aside0.mk A50
 clear A50
 replace H := Option.bind_eq_some_iff.mp H
 obtain ⟨t537, A60, H⟩ := H
 replace H : ((strings_Contains.f t536 t537).bind fun t538 => (if t538 = true then (some a1) else ((dress_tag.f a0).bind fun t539 => (if t539.size + 1 ≤ 9223372036854775807 then ((strings_Trim.f t535 (⟨#[32]⟩ : ByteArray)).bind fun t540 => (if (t539 ++ (⟨#[32]⟩ : ByteArray)).size + t540.size ≤ 9223372036854775807 then ((strings_TrimRight.f ((t539 ++ (⟨#[32]⟩ : ByteArray)) ++ t540) (⟨#[32]⟩ : ByteArray)).bind fun t541 => ((ew_Encode.f t541).bind fun t542 => (some t542))) else (none))) else (none))))) = some r := H
 have A6 := Aside0.mk A60
 clear A60
 replace H := Option.bind_eq_some_iff.mp H
 obtain ⟨t538, A70, H⟩ := H
 replace H : (if t538 = true then (some a1) else ((dress_tag.f a0).bind fun t539 => (if t539.size + 1 ≤ 9223372036854775807 then ((strings_Trim.f t535 (⟨#[32]⟩ : ByteArray)).bind fun t540 => (if (t539 ++ (⟨#[32]⟩ : ByteArray)).size + t540.size ≤ 9223372036854775807 then ((strings_TrimRight.f ((t539 ++ (⟨#[32]⟩ : ByteArray)) ++ t540) (⟨#[32]⟩ : ByteArray)).bind fun t541 => ((ew_Encode.f t541).bind fun t542 => (some t542))) else (none))) else (none)))) = some r := H
 have A7 := Aside0.mk A70
 clear A70
 by_cases c8 : t538 = true
 ·subst c8
  have H1 : (some a1) = some r := by rw [if_pos rfl] at H; exact H
  clear H
  have H := H1
  clear H1
  obtain rfl := Option.some.inj H
  go_enter Tryd.func25, Tryd.ntmps25
  go_wp2_with (first | ((with_reducible refine gate_callee (f := 19) rfl ?_); refine goesL_ (some 7) rfl rfl Tryd.func19 (by kernel_rfl) rfl #[.string a1] rfl am ?_; (with_reducible refine (ew_Decode.calls (hG := by first | exact hG | exact Glob.below hG (by first | exact HB.out | (repeat (first | (with_reducible first | exact HB.out | apply below_alloc | apply pw_below_drewN | apply below_drew1) | exact HB.out))) | exact Glob.drawn hG (by repeat (first | exact Drawn0.refl _ | apply Drawn0.step))) a1 t534 _ A3.out).mono ?_); rintro e w9 ⟨rfl, hb⟩; refine ⟨_, rfl, ?_⟩; have n0_ := Aside0.mk (below_step bw hb); clear HB; have HB := n0_; clear n0_; (try clear hb); (try clear hb2); (try clear hk); (try clear hi)) | ((with_reducible refine gate_callee (f := 27) rfl ?_); refine goesL_ (some 8) rfl rfl Tryd.func27 (by kernel_rfl) rfl #[.string t534] rfl am ?_; (with_reducible refine (glyph_Clean.calls t534 t535 _ A4.out).mono ?_); rintro e w10 ⟨rfl, hb⟩; refine ⟨_, rfl, ?_⟩; have n0_ := Aside0.mk (below_step bw hb); clear HB; have HB := n0_; clear n0_; (try clear hb); (try clear hb2); (try clear hk); (try clear hi)) | ((with_reducible refine gate_callee (f := 26) rfl ?_); refine goesL_ (some 10) rfl rfl Tryd.func26 (by kernel_rfl) rfl #[.string t535] rfl am ?_; (with_reducible refine (glyph_Fold.calls t535 t536 _ A5.out).mono ?_); rintro e w11 ⟨rfl, hb⟩; refine ⟨_, rfl, ?_⟩; have n0_ := Aside0.mk (below_step bw hb); clear HB; have HB := n0_; clear n0_; (try clear hb); (try clear hb2); (try clear hk); (try clear hi)) | ((with_reducible refine gate_callee (f := 56) rfl ?_); refine goesL_ (some 12) rfl rfl Tryd.func56 (by kernel_rfl) rfl #[.string a0] rfl am ?_; (with_reducible refine (dress_tag.calls a0 t537 _ A6.out).mono ?_); rintro e w' ⟨rfl, ⟨nd, rfl⟩⟩; refine ⟨_, rfl, ?_⟩) | ((with_reducible refine gate_callee (f := 40) rfl ?_); refine goesL_ (some 13) rfl rfl Tryd.func40 (by kernel_rfl) rfl #[.string t536, .string t537] rfl am ?_; (with_reducible refine (strings_Contains.calls (hG := by first | exact hG | exact Glob.below hG (by first | exact HB.out | (repeat (first | (with_reducible first | exact HB.out | apply below_alloc | apply pw_below_drewN | apply below_drew1) | exact HB.out))) | exact Glob.drawn hG (by repeat (first | exact Drawn0.refl _ | apply Drawn0.step))) t536 t537 true _ A7.out).mono ?_); rintro e w12 ⟨rfl, hb⟩; refine ⟨_, rfl, ?_⟩; have n0_ := Aside0.mk (below_step bw hb); clear HB; have HB := n0_; clear n0_; (try clear hb); (try clear hb2); (try clear hk); (try clear hi)))
  go_ret
  exact ⟨by first | rfl | (simp [errW_none, errW_some] <;> rfl) | (simp [*, errW_none, errW_some] <;> rfl), bw⟩
 ·replace c8 := Bool.eq_false_iff.mpr c8
  subst c8
  have H1 : ((dress_tag.f a0).bind fun t539 => (if t539.size + 1 ≤ 9223372036854775807 then ((strings_Trim.f t535 (⟨#[32]⟩ : ByteArray)).bind fun t540 => (if (t539 ++ (⟨#[32]⟩ : ByteArray)).size + t540.size ≤ 9223372036854775807 then ((strings_TrimRight.f ((t539 ++ (⟨#[32]⟩ : ByteArray)) ++ t540) (⟨#[32]⟩ : ByteArray)).bind fun t541 => ((ew_Encode.f t541).bind fun t542 => (some t542))) else (none))) else (none))) = some r := by rw [if_neg (show ¬ (false = true) by decide)] at H; exact H
  clear H
  have H := H1
  clear H1
  replace H := Option.bind_eq_some_iff.mp H
  obtain ⟨t539, A130, H⟩ := H
  replace H : (if t539.size + 1 ≤ 9223372036854775807 then ((strings_Trim.f t535 (⟨#[32]⟩ : ByteArray)).bind fun t540 => (if (t539 ++ (⟨#[32]⟩ : ByteArray)).size + t540.size ≤ 9223372036854775807 then ((strings_TrimRight.f ((t539 ++ (⟨#[32]⟩ : ByteArray)) ++ t540) (⟨#[32]⟩ : ByteArray)).bind fun t541 => ((ew_Encode.f t541).bind fun t542 => (some t542))) else (none))) else (none)) = some r := H
  have A13 := Aside0.mk A130
  clear A130
  by_cases c14 : t539.size + 1 ≤ 9223372036854775807
  ·rw [if_pos c14] at H
   have c14b0 := eq_true c14
   have c14b1 : decide (t539.size + 1 ≤ 9223372036854775807) = true := decide_eq_true c14
   try have c14b2 : (9223372036854775807 < t539.size + 1) = False := eq_false (Nat.not_lt.2 c14)
   replace H := Option.bind_eq_some_iff.mp H
   obtain ⟨t540, A150, H⟩ := H
   replace H : (if (t539 ++ (⟨#[32]⟩ : ByteArray)).size + t540.size ≤ 9223372036854775807 then ((strings_TrimRight.f ((t539 ++ (⟨#[32]⟩ : ByteArray)) ++ t540) (⟨#[32]⟩ : ByteArray)).bind fun t541 => ((ew_Encode.f t541).bind fun t542 => (some t542))) else (none)) = some r := H
   have A15 := Aside0.mk A150
   clear A150
   by_cases c16 : (t539 ++ (⟨#[32]⟩ : ByteArray)).size + t540.size ≤ 9223372036854775807
   ·rw [if_pos c16] at H
    have c16b0 := eq_true c16
    have c16b1 : decide ((t539 ++ (⟨#[32]⟩ : ByteArray)).size + t540.size ≤ 9223372036854775807) = true := decide_eq_true c16
    try have c16b2 : (9223372036854775807 < (t539 ++ (⟨#[32]⟩ : ByteArray)).size + t540.size) = False := eq_false (Nat.not_lt.2 c16)
    try (have c16b3 := c16; simp only [ByteArray.size_append, size_lit, ByteArray.size_extract, List.size_toArray, List.length_cons, List.length_nil, Nat.zero_add, Nat.reduceAdd] at c16b3; have c16b4 := eq_false (Nat.not_lt.2 c16b3))
    replace H := Option.bind_eq_some_iff.mp H
    obtain ⟨t541, A170, H⟩ := H
    replace H : ((ew_Encode.f t541).bind fun t542 => (some t542)) = some r := H
    have A17 := Aside0.mk A170
    clear A170
    replace H := Option.bind_eq_some_iff.mp H
    obtain ⟨t542, A180, H⟩ := H
    replace H : (some t542) = some r := H
    have A18 := Aside0.mk A180
    clear A180
    obtain rfl := Option.some.inj H
    go_enter Tryd.func25, Tryd.ntmps25
    go_wp2_with (first | ((with_reducible refine gate_callee (f := 19) rfl ?_); refine goesL_ (some 7) rfl rfl Tryd.func19 (by kernel_rfl) rfl #[.string a1] rfl am ?_; (with_reducible refine (ew_Decode.calls (hG := by first | exact hG | exact Glob.below hG (by first | exact HB.out | (repeat (first | (with_reducible first | exact HB.out | apply below_alloc | apply pw_below_drewN | apply below_drew1) | exact HB.out))) | exact Glob.drawn hG (by repeat (first | exact Drawn0.refl _ | apply Drawn0.step))) a1 t534 _ A3.out).mono ?_); rintro e w19 ⟨rfl, hb⟩; refine ⟨_, rfl, ?_⟩; have n0_ := Aside0.mk (below_step bw hb); clear HB; have HB := n0_; clear n0_; (try clear hb); (try clear hb2); (try clear hk); (try clear hi)) | ((with_reducible refine gate_callee (f := 27) rfl ?_); refine goesL_ (some 8) rfl rfl Tryd.func27 (by kernel_rfl) rfl #[.string t534] rfl am ?_; (with_reducible refine (glyph_Clean.calls t534 t535 _ A4.out).mono ?_); rintro e w20 ⟨rfl, hb⟩; refine ⟨_, rfl, ?_⟩; have n0_ := Aside0.mk (below_step bw hb); clear HB; have HB := n0_; clear n0_; (try clear hb); (try clear hb2); (try clear hk); (try clear hi)) | ((with_reducible refine gate_callee (f := 26) rfl ?_); refine goesL_ (some 10) rfl rfl Tryd.func26 (by kernel_rfl) rfl #[.string t535] rfl am ?_; (with_reducible refine (glyph_Fold.calls t535 t536 _ A5.out).mono ?_); rintro e w21 ⟨rfl, hb⟩; refine ⟨_, rfl, ?_⟩; have n0_ := Aside0.mk (below_step bw hb); clear HB; have HB := n0_; clear n0_; (try clear hb); (try clear hb2); (try clear hk); (try clear hi)) | ((with_reducible refine gate_callee (f := 56) rfl ?_); refine goesL_ (some 12) rfl rfl Tryd.func56 (by kernel_rfl) rfl #[.string a0] rfl am ?_; (with_reducible refine (dress_tag.calls a0 t537 _ A6.out).mono ?_); rintro e w' ⟨rfl, ⟨nd, rfl⟩⟩; refine ⟨_, rfl, ?_⟩) | ((with_reducible refine gate_callee (f := 40) rfl ?_); refine goesL_ (some 13) rfl rfl Tryd.func40 (by kernel_rfl) rfl #[.string t536, .string t537] rfl am ?_; (with_reducible refine (strings_Contains.calls (hG := by first | exact hG | exact Glob.below hG (by first | exact HB.out | (repeat (first | (with_reducible first | exact HB.out | apply below_alloc | apply pw_below_drewN | apply below_drew1) | exact HB.out))) | exact Glob.drawn hG (by repeat (first | exact Drawn0.refl _ | apply Drawn0.step))) t536 t537 false _ A7.out).mono ?_); rintro e w22 ⟨rfl, hb⟩; refine ⟨_, rfl, ?_⟩; have n0_ := Aside0.mk (below_step bw hb); clear HB; have HB := n0_; clear n0_; (try clear hb); (try clear hb2); (try clear hk); (try clear hi)) | ((with_reducible refine gate_callee (f := 56) rfl ?_); refine goesL_ (some 16) rfl rfl Tryd.func56 (by kernel_rfl) rfl #[.string a0] rfl am ?_; (with_reducible refine (dress_tag.calls a0 t539 _ A13.out).mono ?_); rintro e w' ⟨rfl, ⟨nd, rfl⟩⟩; refine ⟨_, rfl, ?_⟩) | ((with_reducible refine gate_callee (f := 58) rfl ?_); refine goesL_ (some 19) rfl rfl Tryd.func58 (by kernel_rfl) rfl #[.string t535, .string (⟨#[32]⟩ : ByteArray)] rfl am ?_; (with_reducible refine (strings_Trim.calls t535 (⟨#[32]⟩ : ByteArray) t540 _ A15.out).mono ?_); rintro e w23 ⟨rfl, hb⟩; refine ⟨_, rfl, ?_⟩; have n0_ := Aside0.mk (below_step bw hb); clear HB; have HB := n0_; clear n0_; (try clear hb); (try clear hb2); (try clear hk); (try clear hi)) | ((with_reducible refine gate_callee (f := 57) rfl ?_); refine goesL_ (some 21) rfl rfl Tryd.func57 (by kernel_rfl) rfl #[.string ((t539 ++ (⟨#[32]⟩ : ByteArray)) ++ t540), .string (⟨#[32]⟩ : ByteArray)] rfl am ?_; (with_reducible refine (strings_TrimRight.calls ((t539 ++ (⟨#[32]⟩ : ByteArray)) ++ t540) (⟨#[32]⟩ : ByteArray) t541 _ A17.out).mono ?_); rintro e w24 ⟨rfl, hb⟩; refine ⟨_, rfl, ?_⟩; have n0_ := Aside0.mk (below_step bw hb); clear HB; have HB := n0_; clear n0_; (try clear hb); (try clear hb2); (try clear hk); (try clear hi)) | ((with_reducible refine gate_callee (f := 17) rfl ?_); refine goesL_ (some 22) rfl rfl Tryd.func17 (by kernel_rfl) rfl #[.string t541] rfl am ?_; (with_reducible refine (ew_Encode.calls (hG := by first | exact hG | exact Glob.below hG (by first | exact HB.out | (repeat (first | (with_reducible first | exact HB.out | apply below_alloc | apply pw_below_drewN | apply below_drew1) | exact HB.out))) | exact Glob.drawn hG (by repeat (first | exact Drawn0.refl _ | apply Drawn0.step))) t541 t542 _ A18.out).mono ?_); rintro e w25 ⟨rfl, hb⟩; refine ⟨_, rfl, ?_⟩; have n0_ := Aside0.mk (below_step bw hb); clear HB; have HB := n0_; clear n0_; (try clear hb); (try clear hb2); (try clear hk); (try clear hi)))
    go_ret
    exact ⟨by first | rfl | (simp [errW_none, errW_some] <;> rfl) | (simp [*, errW_none, errW_some] <;> rfl), bw⟩
   ·rw [if_neg c16] at H
    exact absurd H (by simp)
  ·rw [if_neg c14] at H
   exact absurd H (by simp)

end Go.Proofs.YtihabmcaplnbcaaDoor.Fn
namespace Go.Proofs.YtihabmcaplnbcaaDoor.Fn
open Go.RowKit Go.Proofs.YtihabmcaplnbcaaDoorW.PrintWords Go.Proofs.YtihabmcaplnbcaaDoorW.PrintLast Go.Proofs.YtihabmcaplnbcaaDoorW.PrintMore
attribute [local go_sem] max2_int min2_int max_two min_two max_three min_three max_four min_four
set_option linter.unusedVariables false
set_option linter.unusedSimpArgs false

/-! ### bulletinlaw36_works: function 23 -/
def bulletinlaw36_works.f  : Option (Bool) := (dress_Subject.f (⟨#[100, 101, 118]⟩ : ByteArray) (⟨#[82, 101, 58, 32, 104, 105]⟩ : ByteArray)).bind fun t543 => (if t543.toList = ([91, 100, 101, 118, 93, 32, 82, 101, 58, 32, 104, 105] : List UInt8) then ((dress_Subject.f (⟨#[100, 101, 118]⟩ : ByteArray) t543).bind fun t544 => (some (t544.toList == t543.toList))) else (some false))
set_option maxHeartbeats 8000000 in
set_option maxRecDepth 100000 in
theorem bulletinlaw36_works.calls  (r : Bool) (w : World) (hG : Glob w) (h : bulletinlaw36_works.f  = some r) :
  Calls Tryd.prog 23 #[] w fun e w' => e = .returned (.bool r) ∧ Below w.heap.size w w' := by
 have HB := Aside0.mk (Below.refl w.heap.size w)
 have H : ((dress_Subject.f (⟨#[100, 101, 118]⟩ : ByteArray) (⟨#[82, 101, 58, 32, 104, 105]⟩ : ByteArray)).bind fun t543 => (if t543.toList = ([91, 100, 101, 118, 93, 32, 82, 101, 58, 32, 104, 105] : List UInt8) then ((dress_Subject.f (⟨#[100, 101, 118]⟩ : ByteArray) t543).bind fun t544 => (some (t544.toList == t543.toList))) else (some false))) = some r := h
 clear h
 replace H := Option.bind_eq_some_iff.mp H
 obtain ⟨t543, A10, H⟩ := H
 replace H : (if t543.toList = ([91, 100, 101, 118, 93, 32, 82, 101, 58, 32, 104, 105] : List UInt8) then ((dress_Subject.f (⟨#[100, 101, 118]⟩ : ByteArray) t543).bind fun t544 => (some (t544.toList == t543.toList))) else (some false)) = some r := H
 have A1 := Aside0.mk A10
 clear A10
 by_cases c2 : t543.toList = ([91, 100, 101, 118, 93, 32, 82, 101, 58, 32, 104, 105] : List UInt8)
 ·rw [if_pos c2] at H
  have c2b0 : (t543.toList == ([91, 100, 101, 118, 93, 32, 82, 101, 58, 32, 104, 105] : List UInt8)) = true := beq_iff_eq.mpr c2
  have c2b1 : (t543.toList != ([91, 100, 101, 118, 93, 32, 82, 101, 58, 32, 104, 105] : List UInt8)) = false := bne_eq_false_iff_eq.mpr c2
  clear c2
  replace H := Option.bind_eq_some_iff.mp H
  obtain ⟨t544, A30, H⟩ := H
  replace H : (some (t544.toList == t543.toList)) = some r := H
  have A3 := Aside0.mk A30
  clear A30
  obtain rfl := Option.some.inj H
  go_enter Tryd.func23, Tryd.ntmps23
  go_wp2_with (first | ((with_reducible refine gate_callee (f := 25) rfl ?_); refine goesL_ (some 2) rfl rfl Tryd.func25 (by kernel_rfl) rfl #[.string (⟨#[100, 101, 118]⟩ : ByteArray), .string (⟨#[82, 101, 58, 32, 104, 105]⟩ : ByteArray)] rfl am ?_; (with_reducible refine (dress_Subject.calls (hG := by first | exact hG | exact Glob.below hG (by first | exact HB.out | (repeat (first | (with_reducible first | exact HB.out | apply below_alloc | apply pw_below_drewN | apply below_drew1) | exact HB.out))) | exact Glob.drawn hG (by repeat (first | exact Drawn0.refl _ | apply Drawn0.step))) (⟨#[100, 101, 118]⟩ : ByteArray) (⟨#[82, 101, 58, 32, 104, 105]⟩ : ByteArray) t543 _ A1.out).mono ?_); rintro e w4 ⟨rfl, hb⟩; refine ⟨_, rfl, ?_⟩; have n0_ := Aside0.mk (below_step bw hb); clear HB; have HB := n0_; clear n0_; (try clear hb); (try clear hb2); (try clear hk); (try clear hi)) | (go_at_call 25; (with_reducible refine (dress_Subject.calls (hG := by first | exact hG | exact Glob.below hG (by first | exact HB.out | (repeat (first | (with_reducible first | exact HB.out | apply below_alloc | apply pw_below_drewN | apply below_drew1) | exact HB.out))) | exact Glob.drawn hG (by repeat (first | exact Drawn0.refl _ | apply Drawn0.step))) (⟨#[100, 101, 118]⟩ : ByteArray) t543 t544 _ A3.out).mono ?_); rintro e w5 ⟨rfl, hb⟩; have n0_ := Aside0.mk (below_step bw hb); clear HB; have HB := n0_; clear n0_; (try clear hb); (try clear hb2); (try clear hk); (try clear hi)))
  go_ret
  exact ⟨by first | rfl | (simp [errW_none, errW_some] <;> rfl) | (simp [*, errW_none, errW_some] <;> rfl), bw⟩
 ·rw [if_neg c2] at H
  have c2b0 : (t543.toList == ([91, 100, 101, 118, 93, 32, 82, 101, 58, 32, 104, 105] : List UInt8)) = false := beq_eq_false_iff_ne.mpr c2
  have c2b1 : (t543.toList != ([91, 100, 101, 118, 93, 32, 82, 101, 58, 32, 104, 105] : List UInt8)) = true := bne_iff_ne.mpr c2
  obtain rfl := Option.some.inj H
  go_enter Tryd.func23, Tryd.ntmps23
  go_wp2_with (first | ((with_reducible refine gate_callee (f := 25) rfl ?_); refine goesL_ (some 2) rfl rfl Tryd.func25 (by kernel_rfl) rfl #[.string (⟨#[100, 101, 118]⟩ : ByteArray), .string (⟨#[82, 101, 58, 32, 104, 105]⟩ : ByteArray)] rfl am ?_; (with_reducible refine (dress_Subject.calls (hG := by first | exact hG | exact Glob.below hG (by first | exact HB.out | (repeat (first | (with_reducible first | exact HB.out | apply below_alloc | apply pw_below_drewN | apply below_drew1) | exact HB.out))) | exact Glob.drawn hG (by repeat (first | exact Drawn0.refl _ | apply Drawn0.step))) (⟨#[100, 101, 118]⟩ : ByteArray) (⟨#[82, 101, 58, 32, 104, 105]⟩ : ByteArray) t543 _ A1.out).mono ?_); rintro e w6 ⟨rfl, hb⟩; refine ⟨_, rfl, ?_⟩; have n0_ := Aside0.mk (below_step bw hb); clear HB; have HB := n0_; clear n0_; (try clear hb); (try clear hb2); (try clear hk); (try clear hi)))
  go_ret
  exact ⟨by first | rfl | (simp [errW_none, errW_some] <;> rfl) | (simp [*, errW_none, errW_some] <;> rfl), bw⟩

end Go.Proofs.YtihabmcaplnbcaaDoor.Fn
namespace Go.Proofs.YtihabmcaplnbcaaDoor.Fn
open Go.RowKit Go.Proofs.YtihabmcaplnbcaaDoorW.PrintWords Go.Proofs.YtihabmcaplnbcaaDoorW.PrintLast Go.Proofs.YtihabmcaplnbcaaDoorW.PrintMore
attribute [local go_sem] max2_int min2_int max_two min_two max_three min_three max_four min_four
set_option linter.unusedVariables false
set_option linter.unusedSimpArgs false

/-! ### stringslite_HasSuffix: function 96 -/
def stringslite_HasSuffix.f (a0 : ByteArray) (a1 : ByteArray) : Option (Bool) := if (a0.size : Int) ≥ (a1.size : Int) then (if 0 ≤ (wrap64 ((a0.size : Int) - (a1.size : Int))) then (if (wrap64 ((a0.size : Int) - (a1.size : Int))) ≤ (a0.size : Int) then (some ((a0.extract ((wrap64 ((a0.size : Int) - (a1.size : Int))) : Int).toNat a0.size).toList == a1.toList)) else (none)) else (none)) else (some false)
set_option maxHeartbeats 8000000 in
set_option maxRecDepth 100000 in
theorem stringslite_HasSuffix.calls (a0 : ByteArray) (a1 : ByteArray) (r : Bool) (w : World) (h : stringslite_HasSuffix.f a0 a1 = some r) :
  Calls Tryd.prog 96 #[.string a0, .string a1] w fun e w' => e = .returned (.bool r) ∧ Drawn0 w w' := by
 have H : (if (a0.size : Int) ≥ (a1.size : Int) then (if 0 ≤ (wrap64 ((a0.size : Int) - (a1.size : Int))) then (if (wrap64 ((a0.size : Int) - (a1.size : Int))) ≤ (a0.size : Int) then (some ((a0.extract ((wrap64 ((a0.size : Int) - (a1.size : Int))) : Int).toNat a0.size).toList == a1.toList)) else (none)) else (none)) else (some false)) = some r := h
 clear h
 by_cases c3 : (a0.size : Int) ≥ (a1.size : Int)
 ·rw [if_pos c3] at H
  have c3b0 : decide ((a1.size : Int) ≤ (a0.size : Int)) = true := decide_eq_true c3
  have c3b1 : decide (a1.size ≤ a0.size) = true := decide_eq_true (Int.ofNat_le.mp c3)
  clear c3
  obtain ⟨ji4, hji4⟩ : ∃ j_ : Int, (wrap64 ((a0.size : Int) - (a1.size : Int))) = j_ := ⟨_, rfl⟩
  replace H : (if 0 ≤ (ji4) then (if (ji4) ≤ (a0.size : Int) then (some ((a0.extract ((ji4) : Int).toNat a0.size).toList == a1.toList)) else (none)) else (none)) = some r := by first | (rw [hji4] at H; exact H) | (simp only [hji4] at H ⊢; exact H)
  have hji4w : (IntKind.i64.wrap ((a0.size : Int) - (a1.size : Int))) = ji4 := (i64_w _).trans hji4
  by_cases c5 : 0 ≤ (ji4)
  ·rw [if_pos c5] at H
   have c5b0 := eq_true c5
   have c5b1 : decide (0 ≤ (ji4)) = true := decide_eq_true c5
   clear c5
   by_cases c6 : (ji4) ≤ (a0.size : Int)
   ·rw [if_pos c6] at H
    have c6b0 := eq_true c6
    have c6b1 : decide ((ji4) ≤ (a0.size : Int)) = true := decide_eq_true c6
    clear c6
    obtain rfl := Option.some.inj H
    go_enter Tryd.func96, Tryd.ntmps96
    go_wp2
    go_ret
    exact ⟨by first | rfl | (simp; done) | (simp only [← hji4] <;> (first | rfl | simp)) | (simp [*]; done) | (simp [nil_ne]; done) | (simp [u8_w, i64w_]; done) | (simp [size_lit]; done) | (simp; unfold wrap64; omega), by repeat (first | exact Drawn0.refl _ | apply Drawn0.step)⟩
   ·rw [if_neg c6] at H
    exact absurd H (by simp)
  ·rw [if_neg c5] at H
   exact absurd H (by simp)
 ·rw [if_neg c3] at H
  have c3b0 : decide ((a1.size : Int) ≤ (a0.size : Int)) = false := decide_eq_false c3
  have c3b1 : decide (a1.size ≤ a0.size) = false := decide_eq_false (fun h => c3 (Int.ofNat_le.mpr h))
  clear c3
  obtain rfl := Option.some.inj H
  go_enter Tryd.func96, Tryd.ntmps96
  go_wp2
  go_ret
  exact ⟨by first | rfl | (simp; done) | (simp [*]; done) | (simp [nil_ne]; done) | (simp [u8_w, i64w_]; done) | (simp [size_lit]; done) | (simp; unfold wrap64; omega), by repeat (first | exact Drawn0.refl _ | apply Drawn0.step)⟩

end Go.Proofs.YtihabmcaplnbcaaDoor.Fn
namespace Go.Proofs.YtihabmcaplnbcaaDoor.Fn
open Go.RowKit Go.Proofs.YtihabmcaplnbcaaDoorW.PrintWords Go.Proofs.YtihabmcaplnbcaaDoorW.PrintLast Go.Proofs.YtihabmcaplnbcaaDoorW.PrintMore
attribute [local go_sem] max2_int min2_int max_two min_two max_three min_three max_four min_four
set_option linter.unusedVariables false
set_option linter.unusedSimpArgs false

/-! ### strings_HasSuffix: function 54 -/
def strings_HasSuffix.f (a0 : ByteArray) (a1 : ByteArray) : Option (Bool) := (stringslite_HasSuffix.f a0 a1).bind fun t545 => (some t545)
set_option maxHeartbeats 8000000 in
set_option maxRecDepth 100000 in
theorem strings_HasSuffix.calls (a0 : ByteArray) (a1 : ByteArray) (r : Bool) (w : World) (h : strings_HasSuffix.f a0 a1 = some r) :
  Calls Tryd.prog 54 #[.string a0, .string a1] w fun e w' => e = .returned (.bool r) ∧ Drawn0 w w' := by
 have H : ((stringslite_HasSuffix.f a0 a1).bind fun t545 => (some t545)) = some r := h
 clear h
 replace H := Option.bind_eq_some_iff.mp H
 obtain ⟨t545, A30, H⟩ := H
 replace H : (some t545) = some r := H
 have A3 := Aside0.mk A30
 clear A30
 obtain rfl := Option.some.inj H
 go_enter Tryd.func54, Tryd.ntmps54
 go_wp2_with (first | ((with_reducible refine gate_callee (f := 96) rfl ?_); refine goesL_ (some 7) rfl rfl Tryd.func96 (by kernel_rfl) rfl #[.string a0, .string a1] rfl am ?_; (with_reducible refine (stringslite_HasSuffix.calls a0 a1 t545 _ A3.out).mono ?_); rintro e w' ⟨rfl, ⟨nd, rfl⟩⟩; refine ⟨_, rfl, ?_⟩))
 go_ret
 exact ⟨by first | rfl | (simp; done) | (simp [*]; done) | (simp [nil_ne]; done) | (simp [u8_w, i64w_]; done) | (simp [size_lit]; done) | (simp; unfold wrap64; omega), by repeat (first | exact Drawn0.refl _ | apply Drawn0.step)⟩

end Go.Proofs.YtihabmcaplnbcaaDoor.Fn
namespace Go.Proofs.YtihabmcaplnbcaaDoor.Fn
open Go.RowKit Go.Proofs.YtihabmcaplnbcaaDoorW.PrintWords Go.Proofs.YtihabmcaplnbcaaDoorW.PrintLast Go.Proofs.YtihabmcaplnbcaaDoorW.PrintMore
attribute [local go_sem] max2_int min2_int max_two min_two max_three min_three max_four min_four
set_option linter.unusedVariables false
set_option linter.unusedSimpArgs false

/-! ### verp_small: function 53 -/
def verp_small.f (a0 : Int) : Option (Bool) := if a0 ≥ 97 then (if a0 ≤ 122 then (some true) else (if a0 ≥ 48 then (some (decide (a0 ≤ 57))) else (some false))) else (if a0 ≥ 48 then (some (decide (a0 ≤ 57))) else (some false))
set_option maxHeartbeats 8000000 in
set_option maxRecDepth 100000 in
theorem verp_small.calls (a0 : Int) (r : Bool) (w : World) (h : verp_small.f a0 = some r) :
  Calls Tryd.prog 53 #[.int .u8 a0] w fun e w' => e = .returned (.bool r) ∧ Drawn0 w w' := by
 have H : (if a0 ≥ 97 then (if a0 ≤ 122 then (some true) else (if a0 ≥ 48 then (some (decide (a0 ≤ 57))) else (some false))) else (if a0 ≥ 48 then (some (decide (a0 ≤ 57))) else (some false))) = some r := h
 clear h
 by_cases c2 : a0 ≥ 97
 ·rw [if_pos c2] at H
  have c2b0 : decide (97 ≤ a0) = true := decide_eq_true c2
  clear c2
  by_cases c3 : a0 ≤ 122
  ·rw [if_pos c3] at H
   have c3b0 : decide (a0 ≤ 122) = true := decide_eq_true c3
   clear c3
   obtain rfl := Option.some.inj H
   go_enter Tryd.func53, Tryd.ntmps53
   go_wp2
   go_ret
   exact ⟨by first | rfl | (simp; done) | (simp [*]; done) | (simp [nil_ne]; done) | (simp [u8_w, i64w_]; done) | (simp [size_lit]; done) | (simp; unfold wrap64; omega), by repeat (first | exact Drawn0.refl _ | apply Drawn0.step)⟩
  ·rw [if_neg c3] at H
   have c3b0 : decide (a0 ≤ 122) = false := decide_eq_false c3
   clear c3
   by_cases c4 : a0 ≥ 48
   ·rw [if_pos c4] at H
    have c4b0 : decide (48 ≤ a0) = true := decide_eq_true c4
    clear c4
    obtain rfl := Option.some.inj H
    go_enter Tryd.func53, Tryd.ntmps53
    go_wp2
    go_ret
    exact ⟨by first | rfl | (simp; done) | (simp [*]; done) | (simp [nil_ne]; done) | (simp [u8_w, i64w_]; done) | (simp [size_lit]; done) | (simp; unfold wrap64; omega), by repeat (first | exact Drawn0.refl _ | apply Drawn0.step)⟩
   ·rw [if_neg c4] at H
    have c4b0 : decide (48 ≤ a0) = false := decide_eq_false c4
    clear c4
    obtain rfl := Option.some.inj H
    go_enter Tryd.func53, Tryd.ntmps53
    go_wp2
    go_ret
    exact ⟨by first | rfl | (simp; done) | (simp [*]; done) | (simp [nil_ne]; done) | (simp [u8_w, i64w_]; done) | (simp [size_lit]; done) | (simp; unfold wrap64; omega), by repeat (first | exact Drawn0.refl _ | apply Drawn0.step)⟩
 ·rw [if_neg c2] at H
  have c2b0 : decide (97 ≤ a0) = false := decide_eq_false c2
  clear c2
  by_cases c5 : a0 ≥ 48
  ·rw [if_pos c5] at H
   have c5b0 : decide (48 ≤ a0) = true := decide_eq_true c5
   clear c5
   obtain rfl := Option.some.inj H
   go_enter Tryd.func53, Tryd.ntmps53
   go_wp2
   go_ret
   exact ⟨by first | rfl | (simp; done) | (simp [*]; done) | (simp [nil_ne]; done) | (simp [u8_w, i64w_]; done) | (simp [size_lit]; done) | (simp; unfold wrap64; omega), by repeat (first | exact Drawn0.refl _ | apply Drawn0.step)⟩
  ·rw [if_neg c5] at H
   have c5b0 : decide (48 ≤ a0) = false := decide_eq_false c5
   clear c5
   obtain rfl := Option.some.inj H
   go_enter Tryd.func53, Tryd.ntmps53
   go_wp2
   go_ret
   exact ⟨by first | rfl | (simp; done) | (simp [*]; done) | (simp [nil_ne]; done) | (simp [u8_w, i64w_]; done) | (simp [size_lit]; done) | (simp; unfold wrap64; omega), by repeat (first | exact Drawn0.refl _ | apply Drawn0.step)⟩

end Go.Proofs.YtihabmcaplnbcaaDoor.Fn
namespace Go.Proofs.YtihabmcaplnbcaaDoor.Fn
open Go.RowKit Go.Proofs.YtihabmcaplnbcaaDoorW.PrintWords Go.Proofs.YtihabmcaplnbcaaDoorW.PrintLast Go.Proofs.YtihabmcaplnbcaaDoorW.PrintMore
attribute [local go_sem] max2_int min2_int max_two min_two max_three min_three max_four min_four
set_option linter.unusedVariables false
set_option linter.unusedSimpArgs false

/-! ### verp_suffix: function 55 -/
def verp_suffix.f (a0 : Int) : Option (ByteArray) := if a0 = 2 then (some (⟨#[45, 114, 101, 113, 117, 101, 115, 116]⟩ : ByteArray)) else (if a0 = 3 then (some (⟨#[45, 111, 119, 110, 101, 114]⟩ : ByteArray)) else (if a0 = 4 then (some (⟨#[45, 99, 111, 110, 102, 105, 114, 109]⟩ : ByteArray)) else (if a0 = 5 then (some (⟨#[45, 98, 111, 117, 110, 99, 101, 115]⟩ : ByteArray)) else (some (⟨#[]⟩ : ByteArray)))))
set_option maxHeartbeats 8000000 in
set_option maxRecDepth 100000 in
theorem verp_suffix.calls (a0 : Int) (r : ByteArray) (w : World) (h : verp_suffix.f a0 = some r) :
  Calls Tryd.prog 55 #[.int .i64 a0] w fun e w' => e = .returned (.string r) ∧ Drawn0 w w' := by
 have H : (if a0 = 2 then (some (⟨#[45, 114, 101, 113, 117, 101, 115, 116]⟩ : ByteArray)) else (if a0 = 3 then (some (⟨#[45, 111, 119, 110, 101, 114]⟩ : ByteArray)) else (if a0 = 4 then (some (⟨#[45, 99, 111, 110, 102, 105, 114, 109]⟩ : ByteArray)) else (if a0 = 5 then (some (⟨#[45, 98, 111, 117, 110, 99, 101, 115]⟩ : ByteArray)) else (some (⟨#[]⟩ : ByteArray)))))) = some r := h
 clear h
 by_cases c2 : a0 = 2
 ·rw [if_pos c2] at H
  have c2b0 : (a0 == 2) = true := beq_iff_eq.mpr c2
  have c2b1 : (a0 != 2) = false := bne_eq_false_iff_eq.mpr c2
  clear c2
  obtain rfl := Option.some.inj H
  go_enter Tryd.func55, Tryd.ntmps55
  go_wp2
  go_ret
  exact ⟨by first | rfl | (simp; done) | (simp [*]; done) | (simp [nil_ne]; done) | (simp [u8_w, i64w_]; done) | (simp [size_lit]; done) | (simp; unfold wrap64; omega), by repeat (first | exact Drawn0.refl _ | apply Drawn0.step)⟩
 ·rw [if_neg c2] at H
  have c2b0 : (a0 == 2) = false := beq_eq_false_iff_ne.mpr c2
  have c2b1 : (a0 != 2) = true := bne_iff_ne.mpr c2
  by_cases c3 : a0 = 3
  ·rw [if_pos c3] at H
   have c3b0 : (a0 == 3) = true := beq_iff_eq.mpr c3
   have c3b1 : (a0 != 3) = false := bne_eq_false_iff_eq.mpr c3
   clear c3
   obtain rfl := Option.some.inj H
   go_enter Tryd.func55, Tryd.ntmps55
   go_wp2
   go_ret
   exact ⟨by first | rfl | (simp; done) | (simp [*]; done) | (simp [nil_ne]; done) | (simp [u8_w, i64w_]; done) | (simp [size_lit]; done) | (simp; unfold wrap64; omega), by repeat (first | exact Drawn0.refl _ | apply Drawn0.step)⟩
  ·rw [if_neg c3] at H
   have c3b0 : (a0 == 3) = false := beq_eq_false_iff_ne.mpr c3
   have c3b1 : (a0 != 3) = true := bne_iff_ne.mpr c3
   by_cases c4 : a0 = 4
   ·rw [if_pos c4] at H
    have c4b0 : (a0 == 4) = true := beq_iff_eq.mpr c4
    have c4b1 : (a0 != 4) = false := bne_eq_false_iff_eq.mpr c4
    clear c4
    obtain rfl := Option.some.inj H
    go_enter Tryd.func55, Tryd.ntmps55
    go_wp2
    go_ret
    exact ⟨by first | rfl | (simp; done) | (simp [*]; done) | (simp [nil_ne]; done) | (simp [u8_w, i64w_]; done) | (simp [size_lit]; done) | (simp; unfold wrap64; omega), by repeat (first | exact Drawn0.refl _ | apply Drawn0.step)⟩
   ·rw [if_neg c4] at H
    have c4b0 : (a0 == 4) = false := beq_eq_false_iff_ne.mpr c4
    have c4b1 : (a0 != 4) = true := bne_iff_ne.mpr c4
    by_cases c5 : a0 = 5
    ·rw [if_pos c5] at H
     have c5b0 : (a0 == 5) = true := beq_iff_eq.mpr c5
     have c5b1 : (a0 != 5) = false := bne_eq_false_iff_eq.mpr c5
     clear c5
     obtain rfl := Option.some.inj H
     go_enter Tryd.func55, Tryd.ntmps55
     go_wp2
     go_ret
     exact ⟨by first | rfl | (simp; done) | (simp [*]; done) | (simp [nil_ne]; done) | (simp [u8_w, i64w_]; done) | (simp [size_lit]; done) | (simp; unfold wrap64; omega), by repeat (first | exact Drawn0.refl _ | apply Drawn0.step)⟩
    ·rw [if_neg c5] at H
     have c5b0 : (a0 == 5) = false := beq_eq_false_iff_ne.mpr c5
     have c5b1 : (a0 != 5) = true := bne_iff_ne.mpr c5
     obtain rfl := Option.some.inj H
     go_enter Tryd.func55, Tryd.ntmps55
     go_wp2
     go_ret
     exact ⟨by first | rfl | (simp; done) | (simp [*]; done) | (simp [nil_ne]; done) | (simp [u8_w, i64w_]; done) | (simp [size_lit]; done) | (simp; unfold wrap64; omega), by repeat (first | exact Drawn0.refl _ | apply Drawn0.step)⟩

end Go.Proofs.YtihabmcaplnbcaaDoor.Fn
namespace Go.Proofs.YtihabmcaplnbcaaDoor.Fn
open Go.RowKit Go.Proofs.YtihabmcaplnbcaaDoorW.PrintWords Go.Proofs.YtihabmcaplnbcaaDoorW.PrintLast Go.Proofs.YtihabmcaplnbcaaDoorW.PrintMore
attribute [local go_sem] max2_int min2_int max_two min_two max_three min_three max_four min_four
set_option linter.unusedVariables false
set_option linter.unusedSimpArgs false

/-! ### verp_Name: function 24 -/
mutual
def verp_Name.l0 : Nat → ByteArray → Int → Int → Option (Bool)
 | 0, _, _, _ => none
 | k + 1, x0, x6, x7 => if x7 < x6 then (if 0 ≤ x7 then (if x7 < (x0.size : Int) then ((verp_small.f (bt x0 x7)).bind fun t546 => (if t546 = true then (verp_Name.l0 k x0 x6 (wrap64 (x7 + 1))) else (if (bt x0 x7) = 45 then (if x7 = 0 then (some false) else (if x7 = (wrap64 ((x0.size : Int) - 1)) then (some false) else (verp_Name.l0 k x0 x6 (wrap64 (x7 + 1))))) else (some false)))) else (none)) else (none)) else (verp_Name.l1 k x0 2)
def verp_Name.l1 : Nat → ByteArray → Int → Option (Bool)
 | 0, _, _ => none
 | k + 1, x0, x4 => if x4 ≤ 5 then ((verp_suffix.f x4).bind fun t547 => ((strings_HasSuffix.f x0 t547).bind fun t548 => (if t548 = true then (some false) else (verp_Name.l1 k x0 (wrap64 (x4 + 1)))))) else (if x0.toList = ([] : List UInt8) then (some false) else (some (decide ((x0.size : Int) ≤ 20))))
end
def verp_Name.f (k : Nat) (a0 : ByteArray) : Option (Bool) := verp_Name.l0 k a0 (a0.size : Int) 0
set_option maxHeartbeats 8000000 in
set_option maxRecDepth 100000 in
theorem verp_Name.calls (k : Nat) (a0 : ByteArray) (r : Bool) (w : World) (h : verp_Name.f k a0 = some r) :
  Calls Tryd.prog 24 #[.string a0] w fun e w' => e = .returned (.bool r) ∧ Drawn0 w w' := by
 have H : (verp_Name.l0 k a0 (a0.size : Int) 0) = some r := h
 clear h
 have H' := Aside0.mk H
 clear H
 go_enter Tryd.func24, Tryd.ntmps24
 go_wp2
 go_loopg [7] k (fun kq v7 w' => ∃ (x7_1 : Int), v7 = .int .i64 x7_1 ∧ Aside0 (verp_Name.l0 kq a0 (a0.size : Int) x7_1 = some r) ∧ Aside0 (kq ≤ k) ∧ Drawn0 w w')
 case atStart => exact ⟨(0), (by first | rfl | (simp; done) | (simp [*]; done) | (simp [nil_ne]; done) | (simp [u8_w, i64w_]; done) | (simp [size_lit]; done) | (simp; unfold wrap64; omega)), H', ⟨Nat.le_refl _⟩, by repeat (first | exact Drawn0.refl _ | apply Drawn0.step)⟩
 case round =>
  clear H'
  obtain ⟨x7_1, rfl, HA, HK1, ⟨m1, rfl⟩⟩ := hrel
  cases gk with
  | zero => exact absurd HA.out (by simp [verp_Name.l0])
  | succ k1 =>
   have H := HA.out
   clear HA
   simp only [verp_Name.l0] at H
   by_cases c2 : x7_1 < (a0.size : Int)
   ·rw [if_pos c2] at H
    have c2b0 : decide (x7_1 < (a0.size : Int)) = true := decide_eq_true c2
    clear c2
    by_cases c3 : 0 ≤ x7_1
    ·rw [if_pos c3] at H
     have c3b0 : decide (0 ≤ x7_1) = true := decide_eq_true c3
     clear c3
     by_cases c4 : x7_1 < (a0.size : Int)
     ·rw [if_pos c4] at H
      have c4b0 : decide (x7_1 < (a0.size : Int)) = true := decide_eq_true c4
      clear c4
      replace H := Option.bind_eq_some_iff.mp H
      obtain ⟨t546, A60, H⟩ := H
      replace H : (if t546 = true then (verp_Name.l0 k1 a0 (a0.size : Int) (wrap64 (x7_1 + 1))) else (if (bt a0 x7_1) = 45 then (if x7_1 = 0 then (some false) else (if x7_1 = (wrap64 ((a0.size : Int) - 1)) then (some false) else (verp_Name.l0 k1 a0 (a0.size : Int) (wrap64 (x7_1 + 1))))) else (some false))) = some r := H
      have A6 := Aside0.mk A60
      clear A60
      by_cases c7 : t546 = true
      ·subst c7
       have H1 : (verp_Name.l0 k1 a0 (a0.size : Int) (wrap64 (x7_1 + 1))) = some r := by rw [if_pos rfl] at H; exact H
       clear H
       have H := H1
       clear H1
       have H' := Aside0.mk H
       clear H
       have p5 : 0 ≤ (x7_1 : Int) := od
       have q5 : x7_1 < (a0.size : Int) := od
       have hx5 := bt_at a0 x7_1
       replace p5 := eq_true p5
       replace q5 := eq_true q5
       go_wp2_with (first | ((with_reducible refine gate_callee (f := 53) rfl ?_); refine goesL_ (some 13) rfl rfl Tryd.func53 (by kernel_rfl) rfl #[.int .u8 (bt a0 x7_1)] rfl am ?_; (with_reducible refine (verp_small.calls (bt a0 x7_1) true _ A6.out).mono ?_); rintro e w' ⟨rfl, ⟨nd, rfl⟩⟩; refine ⟨_, rfl, ?_⟩))
       go_roundg k1
       case measure => have := HK1.out; omega
       case rel => exact ⟨(wrap64 (x7_1 + 1)), (by first | rfl | (simp; done) | (simp [*]; done) | (simp [nil_ne]; done) | (simp [u8_w, i64w_]; done) | (simp [size_lit]; done) | (simp; unfold wrap64; omega)), H', ⟨by have := HK1.out; omega⟩, by repeat (first | exact Drawn0.refl _ | apply Drawn0.step)⟩
      ·replace c7 := Bool.eq_false_iff.mpr c7
       subst c7
       have H1 : (if (bt a0 x7_1) = 45 then (if x7_1 = 0 then (some false) else (if x7_1 = (wrap64 ((a0.size : Int) - 1)) then (some false) else (verp_Name.l0 k1 a0 (a0.size : Int) (wrap64 (x7_1 + 1))))) else (some false)) = some r := by rw [if_neg (show ¬ (false = true) by decide)] at H; exact H
       clear H
       have H := H1
       clear H1
       by_cases c9 : (bt a0 x7_1) = 45
       ·rw [if_pos c9] at H
        have c9b0 : ((bt a0 x7_1) == 45) = true := beq_iff_eq.mpr c9
        have c9b1 : ((bt a0 x7_1) != 45) = false := bne_eq_false_iff_eq.mpr c9
        clear c9
        by_cases c10 : x7_1 = 0
        ·rw [if_pos c10] at H
         have c10b0 : (x7_1 == 0) = true := beq_iff_eq.mpr c10
         have c10b1 : (x7_1 != 0) = false := bne_eq_false_iff_eq.mpr c10
         clear c10
         obtain rfl := Option.some.inj H
         have p5 : 0 ≤ (x7_1 : Int) := od
         have q5 : x7_1 < (a0.size : Int) := od
         have hx5 := bt_at a0 x7_1
         replace p5 := eq_true p5
         replace q5 := eq_true q5
         go_wp2_with (first | ((with_reducible refine gate_callee (f := 53) rfl ?_); refine goesL_ (some 13) rfl rfl Tryd.func53 (by kernel_rfl) rfl #[.int .u8 (bt a0 x7_1)] rfl am ?_; (with_reducible refine (verp_small.calls (bt a0 x7_1) false _ A6.out).mono ?_); rintro e w' ⟨rfl, ⟨nd, rfl⟩⟩; refine ⟨_, rfl, ?_⟩; have p8 : 0 ≤ (x7_1 : Int) := od; have q8 : x7_1 < (a0.size : Int) := od; have hx8 := bt_at a0 x7_1; replace p8 := eq_true p8; replace q8 := eq_true q8))
         go_ret
         exact ⟨by first | rfl | (simp; done) | (simp [*]; done) | (simp [nil_ne]; done) | (simp [u8_w, i64w_]; done) | (simp [size_lit]; done) | (simp; unfold wrap64; omega), by repeat (first | exact Drawn0.refl _ | apply Drawn0.step)⟩
        ·rw [if_neg c10] at H
         have c10b0 : (x7_1 == 0) = false := beq_eq_false_iff_ne.mpr c10
         have c10b1 : (x7_1 != 0) = true := bne_iff_ne.mpr c10
         by_cases c11 : x7_1 = (wrap64 ((a0.size : Int) - 1))
         ·rw [if_pos c11] at H
          have c11b0 : (x7_1 == (wrap64 ((a0.size : Int) - 1))) = true := beq_iff_eq.mpr c11
          have c11b1 : (x7_1 != (wrap64 ((a0.size : Int) - 1))) = false := bne_eq_false_iff_eq.mpr c11
          clear c11
          obtain rfl := Option.some.inj H
          have p5 : 0 ≤ (x7_1 : Int) := od
          have q5 : x7_1 < (a0.size : Int) := od
          have hx5 := bt_at a0 x7_1
          replace p5 := eq_true p5
          replace q5 := eq_true q5
          go_wp2_with (first | ((with_reducible refine gate_callee (f := 53) rfl ?_); refine goesL_ (some 13) rfl rfl Tryd.func53 (by kernel_rfl) rfl #[.int .u8 (bt a0 x7_1)] rfl am ?_; (with_reducible refine (verp_small.calls (bt a0 x7_1) false _ A6.out).mono ?_); rintro e w' ⟨rfl, ⟨nd, rfl⟩⟩; refine ⟨_, rfl, ?_⟩; have p8 : 0 ≤ (x7_1 : Int) := od; have q8 : x7_1 < (a0.size : Int) := od; have hx8 := bt_at a0 x7_1; replace p8 := eq_true p8; replace q8 := eq_true q8))
          go_ret
          exact ⟨by first | rfl | (simp; done) | (simp [*]; done) | (simp [nil_ne]; done) | (simp [u8_w, i64w_]; done) | (simp [size_lit]; done) | (simp; unfold wrap64; omega), by repeat (first | exact Drawn0.refl _ | apply Drawn0.step)⟩
         ·rw [if_neg c11] at H
          have c11b0 : (x7_1 == (wrap64 ((a0.size : Int) - 1))) = false := beq_eq_false_iff_ne.mpr c11
          have c11b1 : (x7_1 != (wrap64 ((a0.size : Int) - 1))) = true := bne_iff_ne.mpr c11
          have H' := Aside0.mk H
          clear H
          have p5 : 0 ≤ (x7_1 : Int) := od
          have q5 : x7_1 < (a0.size : Int) := od
          have hx5 := bt_at a0 x7_1
          replace p5 := eq_true p5
          replace q5 := eq_true q5
          go_wp2_with (first | ((with_reducible refine gate_callee (f := 53) rfl ?_); refine goesL_ (some 13) rfl rfl Tryd.func53 (by kernel_rfl) rfl #[.int .u8 (bt a0 x7_1)] rfl am ?_; (with_reducible refine (verp_small.calls (bt a0 x7_1) false _ A6.out).mono ?_); rintro e w' ⟨rfl, ⟨nd, rfl⟩⟩; refine ⟨_, rfl, ?_⟩; have p8 : 0 ≤ (x7_1 : Int) := od; have q8 : x7_1 < (a0.size : Int) := od; have hx8 := bt_at a0 x7_1; replace p8 := eq_true p8; replace q8 := eq_true q8))
          go_roundg k1
          case measure => have := HK1.out; omega
          case rel => exact ⟨(wrap64 (x7_1 + 1)), (by first | rfl | (simp; done) | (simp [*]; done) | (simp [nil_ne]; done) | (simp [u8_w, i64w_]; done) | (simp [size_lit]; done) | (simp; unfold wrap64; omega)), H', ⟨by have := HK1.out; omega⟩, by repeat (first | exact Drawn0.refl _ | apply Drawn0.step)⟩
       ·rw [if_neg c9] at H
        have c9b0 : ((bt a0 x7_1) == 45) = false := beq_eq_false_iff_ne.mpr c9
        have c9b1 : ((bt a0 x7_1) != 45) = true := bne_iff_ne.mpr c9
        obtain rfl := Option.some.inj H
        have p5 : 0 ≤ (x7_1 : Int) := od
        have q5 : x7_1 < (a0.size : Int) := od
        have hx5 := bt_at a0 x7_1
        replace p5 := eq_true p5
        replace q5 := eq_true q5
        go_wp2_with (first | ((with_reducible refine gate_callee (f := 53) rfl ?_); refine goesL_ (some 13) rfl rfl Tryd.func53 (by kernel_rfl) rfl #[.int .u8 (bt a0 x7_1)] rfl am ?_; (with_reducible refine (verp_small.calls (bt a0 x7_1) false _ A6.out).mono ?_); rintro e w' ⟨rfl, ⟨nd, rfl⟩⟩; refine ⟨_, rfl, ?_⟩; have p8 : 0 ≤ (x7_1 : Int) := od; have q8 : x7_1 < (a0.size : Int) := od; have hx8 := bt_at a0 x7_1; replace p8 := eq_true p8; replace q8 := eq_true q8))
        go_ret
        exact ⟨by first | rfl | (simp; done) | (simp [*]; done) | (simp [nil_ne]; done) | (simp [u8_w, i64w_]; done) | (simp [size_lit]; done) | (simp; unfold wrap64; omega), by repeat (first | exact Drawn0.refl _ | apply Drawn0.step)⟩
     ·rw [if_neg c4] at H
      exact absurd H (by simp)
    ·rw [if_neg c3] at H
     exact absurd H (by simp)
   ·rw [if_neg c2] at H
    have c2b0 : decide (x7_1 < (a0.size : Int)) = false := decide_eq_false c2
    clear c2
    have H' := Aside0.mk H
    clear H
    go_wp2
    go_loopg [4] k1 (fun kq v4 w' => ∃ (x4_2 : Int), v4 = .int .i64 x4_2 ∧ Aside0 (verp_Name.l1 kq a0 x4_2 = some r) ∧ Aside0 (kq ≤ k1) ∧ Drawn0 w w')
    case atStart => exact ⟨(2), (by first | rfl | (simp; done) | (simp [*]; done) | (simp [nil_ne]; done) | (simp [u8_w, i64w_]; done) | (simp [size_lit]; done) | (simp; unfold wrap64; omega)), H', ⟨Nat.le_refl _⟩, by repeat (first | exact Drawn0.refl _ | apply Drawn0.step)⟩
    case round =>
     clear H'
     try clear c1
     try clear c2
     try clear c2b0
     try clear p2
     try clear c3
     try clear c3b0
     try clear c4
     try clear c4b0
     try clear c5
     try clear p5
     try clear q5
     try clear hx5
     try clear p6
     try clear c7
     try clear p8
     try clear q8
     try clear hx8
     try clear c9
     try clear c9b0
     try clear c9b1
     try clear c10
     try clear c10b0
     try clear c10b1
     try clear c11
     try clear c11b0
     try clear c11b1
     try clear p5
     try clear p8
     try clear q5
     try clear q8
     obtain ⟨x4_2, rfl, HA, HK2, ⟨m2, rfl⟩⟩ := hrel
     cases gk with
     | zero => exact absurd HA.out (by simp [verp_Name.l1])
     | succ k2 =>
      have H := HA.out
      clear HA
      simp only [verp_Name.l1] at H
      by_cases c12 : x4_2 ≤ 5
      ·rw [if_pos c12] at H
       have c12b0 : decide (x4_2 ≤ 5) = true := decide_eq_true c12
       clear c12
       replace H := Option.bind_eq_some_iff.mp H
       obtain ⟨t547, A130, H⟩ := H
       replace H : ((strings_HasSuffix.f a0 t547).bind fun t548 => (if t548 = true then (some false) else (verp_Name.l1 k2 a0 (wrap64 (x4_2 + 1))))) = some r := H
       have A13 := Aside0.mk A130
       clear A130
       replace H := Option.bind_eq_some_iff.mp H
       obtain ⟨t548, A140, H⟩ := H
       replace H : (if t548 = true then (some false) else (verp_Name.l1 k2 a0 (wrap64 (x4_2 + 1)))) = some r := H
       have A14 := Aside0.mk A140
       clear A140
       by_cases c15 : t548 = true
       ·subst c15
        have H1 : (some false) = some r := by rw [if_pos rfl] at H; exact H
        clear H
        have H := H1
        clear H1
        obtain rfl := Option.some.inj H
        go_wp2_with (first | ((with_reducible refine gate_callee (f := 55) rfl ?_); refine goesL_ (some 39) rfl rfl Tryd.func55 (by kernel_rfl) rfl #[.int .i64 x4_2] rfl am ?_; (with_reducible refine (verp_suffix.calls x4_2 t547 _ A13.out).mono ?_); rintro e w' ⟨rfl, ⟨nd, rfl⟩⟩; refine ⟨_, rfl, ?_⟩) | ((with_reducible refine gate_callee (f := 54) rfl ?_); refine goesL_ (some 40) rfl rfl Tryd.func54 (by kernel_rfl) rfl #[.string a0, .string t547] rfl am ?_; (with_reducible refine (strings_HasSuffix.calls a0 t547 true _ A14.out).mono ?_); rintro e w' ⟨rfl, ⟨nd, rfl⟩⟩; refine ⟨_, rfl, ?_⟩))
        go_ret
        exact ⟨by first | rfl | (simp; done) | (simp [*]; done) | (simp [nil_ne]; done) | (simp [u8_w, i64w_]; done) | (simp [size_lit]; done) | (simp; unfold wrap64; omega), by repeat (first | exact Drawn0.refl _ | apply Drawn0.step)⟩
       ·replace c15 := Bool.eq_false_iff.mpr c15
        subst c15
        have H1 : (verp_Name.l1 k2 a0 (wrap64 (x4_2 + 1))) = some r := by rw [if_neg (show ¬ (false = true) by decide)] at H; exact H
        clear H
        have H := H1
        clear H1
        have H' := Aside0.mk H
        clear H
        go_wp2_with (first | ((with_reducible refine gate_callee (f := 55) rfl ?_); refine goesL_ (some 39) rfl rfl Tryd.func55 (by kernel_rfl) rfl #[.int .i64 x4_2] rfl am ?_; (with_reducible refine (verp_suffix.calls x4_2 t547 _ A13.out).mono ?_); rintro e w' ⟨rfl, ⟨nd, rfl⟩⟩; refine ⟨_, rfl, ?_⟩) | ((with_reducible refine gate_callee (f := 54) rfl ?_); refine goesL_ (some 40) rfl rfl Tryd.func54 (by kernel_rfl) rfl #[.string a0, .string t547] rfl am ?_; (with_reducible refine (strings_HasSuffix.calls a0 t547 false _ A14.out).mono ?_); rintro e w' ⟨rfl, ⟨nd, rfl⟩⟩; refine ⟨_, rfl, ?_⟩))
        go_roundg k2
        case measure => have := HK1.out; have := HK2.out; omega
        case rel => exact ⟨(wrap64 (x4_2 + 1)), (by first | rfl | (simp; done) | (simp [*]; done) | (simp [nil_ne]; done) | (simp [u8_w, i64w_]; done) | (simp [size_lit]; done) | (simp; unfold wrap64; omega)), H', ⟨by have := HK1.out; have := HK2.out; omega⟩, by repeat (first | exact Drawn0.refl _ | apply Drawn0.step)⟩
      ·rw [if_neg c12] at H
       have c12b0 : decide (x4_2 ≤ 5) = false := decide_eq_false c12
       clear c12
       by_cases c16 : a0.toList = ([] : List UInt8)
       ·rw [if_pos c16] at H
        have c16b0 : (a0.toList == ([] : List UInt8)) = true := beq_iff_eq.mpr c16
        have c16b1 : (a0.toList != ([] : List UInt8)) = false := bne_eq_false_iff_eq.mpr c16
        clear c16
        obtain rfl := Option.some.inj H
        go_wp2
        go_ret
        exact ⟨by first | rfl | (simp; done) | (simp [*]; done) | (simp [nil_ne]; done) | (simp [u8_w, i64w_]; done) | (simp [size_lit]; done) | (simp; unfold wrap64; omega), by repeat (first | exact Drawn0.refl _ | apply Drawn0.step)⟩
       ·rw [if_neg c16] at H
        have c16b0 : (a0.toList == ([] : List UInt8)) = false := beq_eq_false_iff_ne.mpr c16
        have c16b1 : (a0.toList != ([] : List UInt8)) = true := bne_iff_ne.mpr c16
        obtain rfl := Option.some.inj H
        go_wp2
        go_ret
        exact ⟨by first | rfl | (simp; done) | (simp [*]; done) | (simp [nil_ne]; done) | (simp [u8_w, i64w_]; done) | (simp [size_lit]; done) | (simp; unfold wrap64; omega), by repeat (first | exact Drawn0.refl _ | apply Drawn0.step)⟩

end Go.Proofs.YtihabmcaplnbcaaDoor.Fn
namespace Go.Proofs.YtihabmcaplnbcaaDoor.Fn
open Go.RowKit Go.Proofs.YtihabmcaplnbcaaDoorW.PrintWords Go.Proofs.YtihabmcaplnbcaaDoorW.PrintLast Go.Proofs.YtihabmcaplnbcaaDoorW.PrintMore
attribute [local go_sem] max2_int min2_int max_two min_two max_three min_three max_four min_four
set_option linter.unusedVariables false
set_option linter.unusedSimpArgs false

/-! ### bulletinlaw36_DressOnce: function 8 -/
mutual
def bulletinlaw36_DressOnce.j0 : Nat → ByteArray → ByteArray → Bool → Option (Bool)
 | 0, _, _, _ => none
 | k + 1, x0, x1, x19 => if x19 = true then (some true) else ((dress_Subject.f x0 x1).bind fun t551 => ((ew_Decode.f t551).bind fun t552 => ((glyph_Clean.f t552).bind fun t553 => ((glyph_Fold.f t553).bind fun t554 => (if 1 + x0.size ≤ 9223372036854775807 then (if ((⟨#[91]⟩ : ByteArray) ++ x0).size + 1 ≤ 9223372036854775807 then (bulletinlaw36_DressOnce.l0 k x0 t551 t554 (((⟨#[91]⟩ : ByteArray) ++ x0) ++ (⟨#[93]⟩ : ByteArray)) false 0) else (none)) else (none))))))
def bulletinlaw36_DressOnce.l0 : Nat → ByteArray → ByteArray → ByteArray → ByteArray → Bool → Int → Option (Bool)
 | 0, _, _, _, _, _, _ => none
 | k + 1, x0, x5, x6, x7, x8, x9 => if (wrap64 (x9 + (x7.size : Int))) ≤ (x6.size : Int) then (if x8 = true then (bulletinlaw36_DressOnce.l0 k x0 x5 x6 x7 true (wrap64 (x9 + 1))) else (if 0 ≤ x9 then (if x9 ≤ (wrap64 (x9 + (x7.size : Int))) then (bulletinlaw36_DressOnce.l0 k x0 x5 x6 x7 ((x6.extract (x9 : Int).toNat ((wrap64 (x9 + (x7.size : Int))) : Int).toNat).toList == x7.toList) (wrap64 (x9 + 1))) else (none)) else (none))) else (if x8 = true then ((dress_Subject.f x0 x5).bind fun t555 => (some (t555.toList == x5.toList))) else (some false))
end
def bulletinlaw36_DressOnce.f (k : Nat) (a0 : ByteArray) (a1 : ByteArray) : Option (Bool) := (bulletinlaw36_works.f).bind fun t549 => (if t549 = true then ((verp_Name.f k a0).bind fun t550 => (if t550 = true then (bulletinlaw36_DressOnce.j0 k a0 a1 (decide ((a1.size : Int) > 500))) else (bulletinlaw36_DressOnce.j0 k a0 a1 true))) else (some false))
set_option maxHeartbeats 8000000 in
set_option maxRecDepth 100000 in
theorem bulletinlaw36_DressOnce.calls (k : Nat) (a0 : ByteArray) (a1 : ByteArray) (r : Bool) (w : World) (hG : Glob w) (h : bulletinlaw36_DressOnce.f k a0 a1 = some r) :
  Calls Tryd.prog 8 #[.string a0, .string a1] w fun e w' => e = .returned (.bool r) ∧ Below w.heap.size w w' := by
 have HB := Aside0.mk (Below.refl w.heap.size w)
 have H : ((bulletinlaw36_works.f).bind fun t549 => (if t549 = true then ((verp_Name.f k a0).bind fun t550 => (if t550 = true then (bulletinlaw36_DressOnce.j0 k a0 a1 (decide ((a1.size : Int) > 500))) else (bulletinlaw36_DressOnce.j0 k a0 a1 true))) else (some false))) = some r := h
 clear h
 replace H := Option.bind_eq_some_iff.mp H
 obtain ⟨t549, A30, H⟩ := H
 replace H : (if t549 = true then ((verp_Name.f k a0).bind fun t550 => (if t550 = true then (bulletinlaw36_DressOnce.j0 k a0 a1 (decide ((a1.size : Int) > 500))) else (bulletinlaw36_DressOnce.j0 k a0 a1 true))) else (some false)) = some r := H
 have A3 := Aside0.mk A30
 clear A30
 by_cases c4 : t549 = true
 ·subst c4
  have H1 : ((verp_Name.f k a0).bind fun t550 => (if t550 = true then (bulletinlaw36_DressOnce.j0 k a0 a1 (decide ((a1.size : Int) > 500))) else (bulletinlaw36_DressOnce.j0 k a0 a1 true))) = some r := by rw [if_pos rfl] at H; exact H
  clear H
  have H := H1
  clear H1
  have HC5 := Aside0.mk H
  clear H
  go_enter Tryd.func8, Tryd.ntmps8
  go_upto_region 3 with (first | ((with_reducible refine gate_callee (f := 23) rfl ?_); refine goesL_ (some 10) rfl rfl Tryd.func23 (by kernel_rfl) rfl #[] rfl am ?_; (with_reducible refine (bulletinlaw36_works.calls (hG := by first | exact hG | exact Glob.below hG (by first | exact HB.out | (repeat (first | (with_reducible first | exact HB.out | apply below_alloc | apply pw_below_drewN | apply below_drew1) | exact HB.out))) | exact Glob.drawn hG (by repeat (first | exact Drawn0.refl _ | apply Drawn0.step)))  true _ A3.out).mono ?_); rintro e w6 ⟨rfl, hb⟩; refine ⟨_, rfl, ?_⟩; have n0_ := Aside0.mk (below_step bw hb); clear HB; have HB := n0_; clear n0_; (try clear hb); (try clear hb2); (try clear hk); (try clear hi)))
  (try simp only [Act.put, List.setIfInBounds_toArray, List.set_cons_zero, List.set_cons_succ])
  go_cut [19] (fun v19 wc => ∃ (kq : Nat) (x19_4 : Bool), v19 = .bool x19_4 ∧ Aside0 (bulletinlaw36_DressOnce.j0 kq a0 a1 x19_4 = some r) ∧ Aside0 (kq ≤ k) ∧ Aside0 (Below w.heap.size w wc))
  case first =>
   have H := HC5.out
   clear HC5
   replace H := Option.bind_eq_some_iff.mp H
   obtain ⟨t550, A70, H⟩ := H
   replace H : (if t550 = true then (bulletinlaw36_DressOnce.j0 k a0 a1 (decide ((a1.size : Int) > 500))) else (bulletinlaw36_DressOnce.j0 k a0 a1 true)) = some r := H
   have A7 := Aside0.mk A70
   clear A70
   by_cases c8 : t550 = true
   ·subst c8
    have H1 : (bulletinlaw36_DressOnce.j0 k a0 a1 (decide ((a1.size : Int) > 500))) = some r := by rw [if_pos rfl] at H; exact H
    clear H
    have H := H1
    clear H1
    have H' := Aside0.mk H
    clear H
    go_wp2_with (first | ((with_reducible refine gate_callee (f := 24) rfl ?_); refine goesL_ (some 13) rfl rfl Tryd.func24 (by kernel_rfl) rfl #[.string a0] rfl am ?_; (with_reducible refine (verp_Name.calls k a0 true _ A7.out).mono ?_); rintro e w' ⟨rfl, ⟨nd, rfl⟩⟩; refine ⟨_, rfl, ?_⟩))
    go_meet
    case rel => exact ⟨_, (decide ((a1.size : Int) > 500)), (by first | rfl | (simp; done) | (simp [*]; done) | (simp [nil_ne]; done) | (simp [u8_w, i64w_]; done) | (simp [size_lit]; done) | (simp; unfold wrap64; omega)), H', ⟨by first | omega | exact Nat.le_refl _⟩, ⟨bw⟩⟩
   ·replace c8 := Bool.eq_false_iff.mpr c8
    subst c8
    have H1 : (bulletinlaw36_DressOnce.j0 k a0 a1 true) = some r := by rw [if_neg (show ¬ (false = true) by decide)] at H; exact H
    clear H
    have H := H1
    clear H1
    have H' := Aside0.mk H
    clear H
    go_wp2_with (first | ((with_reducible refine gate_callee (f := 24) rfl ?_); refine goesL_ (some 13) rfl rfl Tryd.func24 (by kernel_rfl) rfl #[.string a0] rfl am ?_; (with_reducible refine (verp_Name.calls k a0 false _ A7.out).mono ?_); rintro e w' ⟨rfl, ⟨nd, rfl⟩⟩; refine ⟨_, rfl, ?_⟩))
    go_meet
    case rel => exact ⟨_, (true), (by first | rfl | (simp; done) | (simp [*]; done) | (simp [nil_ne]; done) | (simp [u8_w, i64w_]; done) | (simp [size_lit]; done) | (simp; unfold wrap64; omega)), H', ⟨by first | omega | exact Nat.le_refl _⟩, ⟨bw⟩⟩
  case rest =>
   clear HC5
   try clear c2
   try clear p2
   try clear c4
   try clear c8
   obtain ⟨kq, x19_4, rfl, HA, HJ4, HB⟩ := hcut
   cases kq with
   | zero => exact absurd HA.out (by simp [bulletinlaw36_DressOnce.j0])
   | succ kj4 =>
    have H := HA.out
    clear HA
    simp only [bulletinlaw36_DressOnce.j0] at H
    by_cases c9 : x19_4 = true
    ·subst c9
     have H1 : (some true) = some r := by rw [if_pos rfl] at H; exact H
     clear H
     have H := H1
     clear H1
     obtain rfl := Option.some.inj H
     go_wp2
     go_ret
     exact ⟨by first | rfl | (simp [errW_none, errW_some] <;> rfl) | (simp [*, errW_none, errW_some] <;> rfl), bw⟩
    ·replace c9 := Bool.eq_false_iff.mpr c9
     subst c9
     have H1 : ((dress_Subject.f a0 a1).bind fun t551 => ((ew_Decode.f t551).bind fun t552 => ((glyph_Clean.f t552).bind fun t553 => ((glyph_Fold.f t553).bind fun t554 => (if 1 + a0.size ≤ 9223372036854775807 then (if ((⟨#[91]⟩ : ByteArray) ++ a0).size + 1 ≤ 9223372036854775807 then (bulletinlaw36_DressOnce.l0 kj4 a0 t551 t554 (((⟨#[91]⟩ : ByteArray) ++ a0) ++ (⟨#[93]⟩ : ByteArray)) false 0) else (none)) else (none)))))) = some r := by rw [if_neg (show ¬ (false = true) by decide)] at H; exact H
     clear H
     have H := H1
     clear H1
     replace H := Option.bind_eq_some_iff.mp H
     obtain ⟨t551, A100, H⟩ := H
     replace H : ((ew_Decode.f t551).bind fun t552 => ((glyph_Clean.f t552).bind fun t553 => ((glyph_Fold.f t553).bind fun t554 => (if 1 + a0.size ≤ 9223372036854775807 then (if ((⟨#[91]⟩ : ByteArray) ++ a0).size + 1 ≤ 9223372036854775807 then (bulletinlaw36_DressOnce.l0 kj4 a0 t551 t554 (((⟨#[91]⟩ : ByteArray) ++ a0) ++ (⟨#[93]⟩ : ByteArray)) false 0) else (none)) else (none))))) = some r := H
     have A10 := Aside0.mk A100
     clear A100
     replace H := Option.bind_eq_some_iff.mp H
     obtain ⟨t552, A110, H⟩ := H
     replace H : ((glyph_Clean.f t552).bind fun t553 => ((glyph_Fold.f t553).bind fun t554 => (if 1 + a0.size ≤ 9223372036854775807 then (if ((⟨#[91]⟩ : ByteArray) ++ a0).size + 1 ≤ 9223372036854775807 then (bulletinlaw36_DressOnce.l0 kj4 a0 t551 t554 (((⟨#[91]⟩ : ByteArray) ++ a0) ++ (⟨#[93]⟩ : ByteArray)) false 0) else (none)) else (none)))) = some r := H
     have A11 := Aside0.mk A110
     clear A110
     replace H := Option.bind_eq_some_iff.mp H
     obtain ⟨t553, A120, H⟩ := H
     replace H : ((glyph_Fold.f t553).bind fun t554 => (if 1 + a0.size ≤ 9223372036854775807 then (if ((⟨#[91]⟩ : ByteArray) ++ a0).size + 1 ≤ 9223372036854775807 then (bulletinlaw36_DressOnce.l0 kj4 a0 t551 t554 (((⟨#[91]⟩ : ByteArray) ++ a0) ++ (⟨#[93]⟩ : ByteArray)) false 0) else (none)) else (none))) = some r := H
     have A12 := Aside0.mk A120
     clear A120
     replace H := Option.bind_eq_some_iff.mp H
     obtain ⟨t554, A130, H⟩ := H
     replace H : (if 1 + a0.size ≤ 9223372036854775807 then (if ((⟨#[91]⟩ : ByteArray) ++ a0).size + 1 ≤ 9223372036854775807 then (bulletinlaw36_DressOnce.l0 kj4 a0 t551 t554 (((⟨#[91]⟩ : ByteArray) ++ a0) ++ (⟨#[93]⟩ : ByteArray)) false 0) else (none)) else (none)) = some r := H
     have A13 := Aside0.mk A130
     clear A130
     by_cases c14 : 1 + a0.size ≤ 9223372036854775807
     ·rw [if_pos c14] at H
      have c14b0 := eq_true c14
      have c14b1 : decide (1 + a0.size ≤ 9223372036854775807) = true := decide_eq_true c14
      try have c14b2 : (9223372036854775807 < 1 + a0.size) = False := eq_false (Nat.not_lt.2 c14)
      by_cases c15 : ((⟨#[91]⟩ : ByteArray) ++ a0).size + 1 ≤ 9223372036854775807
      ·rw [if_pos c15] at H
       have c15b0 := eq_true c15
       have c15b1 : decide (((⟨#[91]⟩ : ByteArray) ++ a0).size + 1 ≤ 9223372036854775807) = true := decide_eq_true c15
       try have c15b2 : (9223372036854775807 < ((⟨#[91]⟩ : ByteArray) ++ a0).size + 1) = False := eq_false (Nat.not_lt.2 c15)
       try (have c15b3 := c15; simp only [ByteArray.size_append, size_lit, ByteArray.size_extract, List.size_toArray, List.length_cons, List.length_nil, Nat.zero_add, Nat.reduceAdd] at c15b3; have c15b4 := eq_false (Nat.not_lt.2 c15b3))
       have H' := Aside0.mk H
       clear H
       go_wp2_with (first | ((with_reducible refine gate_callee (f := 25) rfl ?_); refine goesL_ (some 22) rfl rfl Tryd.func25 (by kernel_rfl) rfl #[.string a0, .string a1] rfl am ?_; (with_reducible refine (dress_Subject.calls (hG := by first | exact hG | exact Glob.below hG (by first | exact HB.out | (repeat (first | (with_reducible first | exact HB.out | apply below_alloc | apply pw_below_drewN | apply below_drew1) | exact HB.out))) | exact Glob.drawn hG (by repeat (first | exact Drawn0.refl _ | apply Drawn0.step))) a0 a1 t551 _ A10.out).mono ?_); rintro e w16 ⟨rfl, hb⟩; refine ⟨_, rfl, ?_⟩; have n0_ := Aside0.mk (below_step bw hb); clear HB; have HB := n0_; clear n0_; (try clear hb); (try clear hb2); (try clear hk); (try clear hi)) | ((with_reducible refine gate_callee (f := 19) rfl ?_); refine goesL_ (some 24) rfl rfl Tryd.func19 (by kernel_rfl) rfl #[.string t551] rfl am ?_; (with_reducible refine (ew_Decode.calls (hG := by first | exact hG | exact Glob.below hG (by first | exact HB.out | (repeat (first | (with_reducible first | exact HB.out | apply below_alloc | apply pw_below_drewN | apply below_drew1) | exact HB.out))) | exact Glob.drawn hG (by repeat (first | exact Drawn0.refl _ | apply Drawn0.step))) t551 t552 _ A11.out).mono ?_); rintro e w17 ⟨rfl, hb⟩; refine ⟨_, rfl, ?_⟩; have n0_ := Aside0.mk (below_step bw hb); clear HB; have HB := n0_; clear n0_; (try clear hb); (try clear hb2); (try clear hk); (try clear hi)) | ((with_reducible refine gate_callee (f := 27) rfl ?_); refine goesL_ (some 25) rfl rfl Tryd.func27 (by kernel_rfl) rfl #[.string t552] rfl am ?_; (with_reducible refine (glyph_Clean.calls t552 t553 _ A12.out).mono ?_); rintro e w18 ⟨rfl, hb⟩; refine ⟨_, rfl, ?_⟩; have n0_ := Aside0.mk (below_step bw hb); clear HB; have HB := n0_; clear n0_; (try clear hb); (try clear hb2); (try clear hk); (try clear hi)) | ((with_reducible refine gate_callee (f := 26) rfl ?_); refine goesL_ (some 26) rfl rfl Tryd.func26 (by kernel_rfl) rfl #[.string t553] rfl am ?_; (with_reducible refine (glyph_Fold.calls t553 t554 _ A13.out).mono ?_); rintro e w19 ⟨rfl, hb⟩; refine ⟨_, rfl, ?_⟩; have n0_ := Aside0.mk (below_step bw hb); clear HB; have HB := n0_; clear n0_; (try clear hb); (try clear hb2); (try clear hk); (try clear hi)))
       generalize hx_tagV : (((⟨#[91]⟩ : ByteArray) ++ a0) ++ (⟨#[93]⟩ : ByteArray)) = tagV at H' ⊢
       go_loopg [8, 9] kj4 (fun kq v8 v9 w' => ∃ (x8_2 : Bool) (x9_2 : Int), v8 = .bool x8_2 ∧ v9 = .int .i64 x9_2 ∧ Aside0 (bulletinlaw36_DressOnce.l0 kq a0 t551 t554 tagV x8_2 x9_2 = some r) ∧ Aside0 (kq ≤ kj4) ∧ Aside0 (Below w.heap.size w w'))
       case atStart => exact ⟨(false), (0), (by first | rfl | (simp; done) | (simp [*]; done) | (simp [nil_ne]; done) | (simp [u8_w, i64w_]; done) | (simp [size_lit]; done) | (simp; unfold wrap64; omega)), (by first | rfl | (simp; done) | (simp [*]; done) | (simp [nil_ne]; done) | (simp [u8_w, i64w_]; done) | (simp [size_lit]; done) | (simp; unfold wrap64; omega)), H', ⟨Nat.le_refl _⟩, ⟨bw⟩⟩
       case round =>
        clear H'
        try clear c1
        try clear c2
        try clear p2
        try clear c4
        try clear c8
        try clear c9
        try clear c14
        try clear c14b0
        try clear c14b1
        try clear c14b2
        try clear c15
        try clear c15b0
        try clear c15b1
        try clear c15b2
        try clear c19
        try clear p2
        obtain ⟨x8_2, x9_2, rfl, rfl, HA, HK2, HB⟩ := hrel
        cases gk with
        | zero => exact absurd HA.out (by simp [bulletinlaw36_DressOnce.l0])
        | succ k2 =>
         have H := HA.out
         clear HA
         simp only [bulletinlaw36_DressOnce.l0] at H
         by_cases c20 : (wrap64 (x9_2 + (tagV.size : Int))) ≤ (t554.size : Int)
         ·rw [if_pos c20] at H
          have c20b0 : decide ((wrap64 (x9_2 + (tagV.size : Int))) ≤ (t554.size : Int)) = true := decide_eq_true c20
          clear c20
          by_cases c21 : x8_2 = true
          ·subst c21
           have H1 : (bulletinlaw36_DressOnce.l0 k2 a0 t551 t554 tagV true (wrap64 (x9_2 + 1))) = some r := by rw [if_pos rfl] at H; exact H
           clear H
           have H := H1
           clear H1
           have H' := Aside0.mk H
           clear H
           go_wp2
           go_roundg k2
           case measure => have := HJ4.out; have := HK2.out; omega
           case rel => exact ⟨(true), (wrap64 (x9_2 + 1)), (by first | rfl | (simp; done) | (simp [*]; done) | (simp [nil_ne]; done) | (simp [u8_w, i64w_]; done) | (simp [size_lit]; done) | (simp; unfold wrap64; omega)), (by first | rfl | (simp; done) | (simp [*]; done) | (simp [nil_ne]; done) | (simp [u8_w, i64w_]; done) | (simp [size_lit]; done) | (simp; unfold wrap64; omega)), H', ⟨by have := HJ4.out; have := HK2.out; omega⟩, ⟨bw⟩⟩
          ·replace c21 := Bool.eq_false_iff.mpr c21
           subst c21
           have H1 : (if 0 ≤ x9_2 then (if x9_2 ≤ (wrap64 (x9_2 + (tagV.size : Int))) then (bulletinlaw36_DressOnce.l0 k2 a0 t551 t554 tagV ((t554.extract (x9_2 : Int).toNat ((wrap64 (x9_2 + (tagV.size : Int))) : Int).toNat).toList == tagV.toList) (wrap64 (x9_2 + 1))) else (none)) else (none)) = some r := by rw [if_neg (show ¬ (false = true) by decide)] at H; exact H
           clear H
           have H := H1
           clear H1
           by_cases c22 : 0 ≤ x9_2
           ·rw [if_pos c22] at H
            have c22b0 := eq_true c22
            have c22b1 : decide (0 ≤ x9_2) = true := decide_eq_true c22
            clear c22
            by_cases c23 : x9_2 ≤ (wrap64 (x9_2 + (tagV.size : Int)))
            ·rw [if_pos c23] at H
             have c23b0 := eq_true c23
             have c23b1 : decide (x9_2 ≤ (wrap64 (x9_2 + (tagV.size : Int)))) = true := decide_eq_true c23
             have c24b0 := eq_true (od : (wrap64 (x9_2 + (tagV.size : Int))) ≤ (t554.size : Int))
             have H' := Aside0.mk H
             clear H
             go_wp2
             go_roundg k2
             case measure => have := HJ4.out; have := HK2.out; omega
             case rel => exact ⟨(((t554.extract (x9_2 : Int).toNat ((wrap64 (x9_2 + (tagV.size : Int))) : Int).toNat).toList == tagV.toList)), (wrap64 (x9_2 + 1)), (by first | rfl | (simp; done) | (simp [*]; done) | (simp [nil_ne]; done) | (simp [u8_w, i64w_]; done) | (simp [size_lit]; done) | (simp; unfold wrap64; omega)), (by first | rfl | (simp; done) | (simp [*]; done) | (simp [nil_ne]; done) | (simp [u8_w, i64w_]; done) | (simp [size_lit]; done) | (simp; unfold wrap64; omega)), H', ⟨by have := HJ4.out; have := HK2.out; omega⟩, ⟨bw⟩⟩
            ·rw [if_neg c23] at H
             exact absurd H (by simp)
           ·rw [if_neg c22] at H
            exact absurd H (by simp)
         ·rw [if_neg c20] at H
          have c20b0 : decide ((wrap64 (x9_2 + (tagV.size : Int))) ≤ (t554.size : Int)) = false := decide_eq_false c20
          clear c20
          by_cases c25 : x8_2 = true
          ·subst c25
           have H1 : ((dress_Subject.f a0 t551).bind fun t555 => (some (t555.toList == t551.toList))) = some r := by rw [if_pos rfl] at H; exact H
           clear H
           have H := H1
           clear H1
           replace H := Option.bind_eq_some_iff.mp H
           obtain ⟨t555, A260, H⟩ := H
           replace H : (some (t555.toList == t551.toList)) = some r := H
           have A26 := Aside0.mk A260
           clear A260
           obtain rfl := Option.some.inj H
           go_wp2_with (first | (go_at_call 25; (with_reducible refine (dress_Subject.calls (hG := by first | exact hG | exact Glob.below hG (by first | exact HB.out | (repeat (first | (with_reducible first | exact HB.out | apply below_alloc | apply pw_below_drewN | apply below_drew1) | exact HB.out))) | exact Glob.drawn hG (by repeat (first | exact Drawn0.refl _ | apply Drawn0.step))) a0 t551 t555 _ A26.out).mono ?_); rintro e w27 ⟨rfl, hb⟩; have n0_ := Aside0.mk (below_step bw hb); clear HB; have HB := n0_; clear n0_; (try clear hb); (try clear hb2); (try clear hk); (try clear hi)))
           go_ret
           exact ⟨by first | rfl | (simp [errW_none, errW_some] <;> rfl) | (simp [*, errW_none, errW_some] <;> rfl), bw⟩
          ·replace c25 := Bool.eq_false_iff.mpr c25
           subst c25
           have H1 : (some false) = some r := by rw [if_neg (show ¬ (false = true) by decide)] at H; exact H
           clear H
           have H := H1
           clear H1
           obtain rfl := Option.some.inj H
           go_wp2
           go_ret
           exact ⟨by first | rfl | (simp [errW_none, errW_some] <;> rfl) | (simp [*, errW_none, errW_some] <;> rfl), bw⟩
      ·rw [if_neg c15] at H
       exact absurd H (by simp)
     ·rw [if_neg c14] at H
      exact absurd H (by simp)
 ·replace c4 := Bool.eq_false_iff.mpr c4
  subst c4
  have H1 : (some false) = some r := by rw [if_neg (show ¬ (false = true) by decide)] at H; exact H
  clear H
  have H := H1
  clear H1
  obtain rfl := Option.some.inj H
  go_enter Tryd.func8, Tryd.ntmps8
  go_wp2_with (first | ((with_reducible refine gate_callee (f := 23) rfl ?_); refine goesL_ (some 10) rfl rfl Tryd.func23 (by kernel_rfl) rfl #[] rfl am ?_; (with_reducible refine (bulletinlaw36_works.calls (hG := by first | exact hG | exact Glob.below hG (by first | exact HB.out | (repeat (first | (with_reducible first | exact HB.out | apply below_alloc | apply pw_below_drewN | apply below_drew1) | exact HB.out))) | exact Glob.drawn hG (by repeat (first | exact Drawn0.refl _ | apply Drawn0.step)))  false _ A3.out).mono ?_); rintro e w28 ⟨rfl, hb⟩; refine ⟨_, rfl, ?_⟩; have n0_ := Aside0.mk (below_step bw hb); clear HB; have HB := n0_; clear n0_; (try clear hb); (try clear hb2); (try clear hk); (try clear hi)))
  go_ret
  exact ⟨by first | rfl | (simp [errW_none, errW_some] <;> rfl) | (simp [*, errW_none, errW_some] <;> rfl), bw⟩


end Go.Proofs.YtihabmcaplnbcaaDoor.Fn
namespace Go.Proofs.YtihabmcaplnbcaaDoor.Fn
open Go.RowKit Go.Proofs.YtihabmcaplnbcaaDoorW.PrintWords Go.Proofs.YtihabmcaplnbcaaDoorW.PrintLast Go.Proofs.YtihabmcaplnbcaaDoorW.PrintMore
attribute [local go_sem] max2_int min2_int max_two min_two max_three min_three max_four min_four
set_option linter.unusedVariables false
set_option linter.unusedSimpArgs false

/-! ### bulletinlaw19_works: function 16 -/
end Go.Proofs.YtihabmcaplnbcaaDoor.Fn
set_option linter.unusedVariables false
set_option linter.unusedSimpArgs false
namespace Go.Proofs.YtihabmcaplnbcaaDoor.Pl
open Go.RowKit Go.Proofs.YtihabmcaplnbcaaDoorW.PrintWords Go.Proofs.YtihabmcaplnbcaaDoor.Fn

/-! Layer 19: what the laws call. -/
theorem encode_is (s : ByteArray) (hs : s.size ≤ 1000000000) : ew_Encode.f s = some (str (encL s)) := by
  unfold ew_Encode.f
  rw [if_pos hs]
theorem decode_is (s : ByteArray) (hs : s.size ≤ 1000000000) : ew_Decode.f s = some (str (decodeL (bs s))) := by
  unfold ew_Decode.f
  rw [if_pos hs]
theorem rawFrom_len (s : ByteArray) : ∀ n i, (rawFrom s n i).length ≤ n
  | 0, i => by simp [rawFrom]
  | n + 1, i => by
    rw [rawFrom]
    split
    · have := rawFrom_len s n (i + (Utf8.decode s i).2)
      simp only [List.length_cons]
      omega
    · simp
theorem encW_len : ∀ (rs : List Nat) (out w : Bytes), (encW rs out w).length ≤ out.length + w.length + 12 + 25 * rs.length
  | [], out, w => by simp [encW, frontL, shutL]; omega
  | r :: rs, out, w => by
    have h := wrL_len r
    rw [encW]
    split
    · have := encW_len rs (out ++ (frontL ++ (w ++ (shutL ++ [32])))) (wrL r)
      simp [frontL, shutL] at this ⊢
      omega
    · have := encW_len rs out (w ++ wrL r)
      simp at this ⊢
      omega
theorem encL_len (s : ByteArray) : (encL s).length ≤ 12 + 25 * s.size := by
  unfold encL
  split
  · rw [bs_length]; omega
  · have h1 := encW_len (rawFrom s s.size 0) [] []
    have h2 := rawFrom_len s s.size 0
    simp at h1
    omega
theorem decL_len : ∀ (f : Nat) (l acc : Bytes), (decL f l acc).length ≤ acc.length + 300 * l.length
  | 0, l, acc => by rw [decL]; omega
  | f + 1, [], acc => by rw [decL]; omega
  | f + 1, c :: r, acc => by
    rw [decL]
    cases hw : wordL (c :: r) with
    | none =>
      have := decL_len f r (acc ++ [c])
      simp at this ⊢
      omega
    | some y =>
      obtain ⟨x, n⟩ := y
      simp only []
      obtain ⟨_, _, hn, _, hn2, _⟩ := wordL_some hw
      have hx := wordL_len hw
      have hd : ((c :: r).drop n).length = (c :: r).length - n := List.length_drop
      split
      · have := decL_len f (trimB ((c :: r).drop n)) (acc ++ x)
        have ht := trimB_len ((c :: r).drop n)
        rw [List.length_append] at this
        omega
      · have := decL_len f ((c :: r).drop n) (acc ++ x)
        rw [List.length_append] at this
        omega
theorem decodeL_len (l : Bytes) : (decodeL l).length ≤ 300 * l.length := by
  have := decL_len l.length l []
  simpa [decodeL] using this
end Go.Proofs.YtihabmcaplnbcaaDoor.Pl
set_option linter.unusedVariables false
set_option linter.unusedSimpArgs false
namespace Go.Proofs.YtihabmcaplnbcaaDoor.Pl
open Go.RowKit Go.Proofs.YtihabmcaplnbcaaDoorW.PrintWords Go.Proofs.YtihabmcaplnbcaaDoor.Fn

/-! Layer 36: a subject with a list's tag. -/
def tagL (a : Bytes) : Bytes := 91 :: (a ++ [93])
def saysL (s : Bytes) : Bytes := clean (str (decodeL s))
def tagPut (t y : Bytes) : Bytes := Lib.trimRightS (t ++ (32 :: Lib.trimS y [32])) [32]
def subjS (list s : ByteArray) : ByteArray := if Lib.contains (fold (saysL (bs s))) (tagL (bs list)) = true then s else str (encL (str (tagPut (tagL (bs list)) (saysL (bs s)))))
theorem tag_is (a : ByteArray) (ha : a.size ≤ 1000000) : dress_tag.f a = some (str (tagL (bs a))) := by
  have hz : ((⟨#[91]⟩ : ByteArray) ++ a).size = 1 + a.size := by rw [ByteArray.size_append]; rfl
  unfold dress_tag.f
  rw [if_pos (by omega), if_pos (by rw [hz]; omega)]
  refine congrArg some (bs_inj ?_)
  rw [bs_app, bs_app, bs_str]
  simp [bs, tagL]
theorem trimS_len (l cs : Bytes) : (Lib.trimS l cs).length ≤ l.length := by
  unfold Lib.trimS Lib.trimLeftS
  have h1 := (List.dropWhile_suffix (l := Lib.trimRightS l cs) (cs.contains ·)).length_le
  have h2 : (Lib.trimRightS l cs).length ≤ l.length := by
    unfold Lib.trimRightS
    rw [List.length_reverse]
    have := (List.dropWhile_suffix (l := l.reverse) (cs.contains ·)).length_le
    rwa [List.length_reverse] at this
  omega
theorem trimRS_len (l cs : Bytes) : (Lib.trimRightS l cs).length ≤ l.length := by
  unfold Lib.trimRightS
  rw [List.length_reverse]
  have := (List.dropWhile_suffix (l := l.reverse) (cs.contains ·)).length_le
  rwa [List.length_reverse] at this
theorem saysL_len (s : Bytes) : (saysL s).length ≤ 1200 * s.length := by
  have h1 := decodeL_len s
  have h2 := clean_length (str (decodeL s))
  rw [str_size] at h2
  unfold saysL
  omega
theorem tagPut_len (t y : Bytes) : (tagPut t y).length ≤ t.length + y.length + 1 := by
  have h1 := trimRS_len (t ++ (32 :: Lib.trimS y [32])) [32]
  have h2 := trimS_len y [32]
  unfold tagPut
  simp at h1 ⊢
  omega
theorem subject_is (a s : ByteArray) (ha : a.size ≤ 1000) (hs : s.size ≤ 100000) : dress_Subject.f a s = some (subjS a s) := by
  have h1 := decodeL_len (bs s)
  rw [bs_length] at h1
  have h2 := saysL_len (bs s)
  rw [bs_length] at h2
  have hc : glyph_Clean.f (str (decodeL (bs s))) = some (str (saysL (bs s))) := by unfold glyph_Clean.f; rw [str_size, if_pos (by omega)]; rfl
  have hf : glyph_Fold.f (str (saysL (bs s))) = some (str (fold (saysL (bs s)))) := by
    unfold glyph_Fold.f
    rw [str_size, if_pos (by omega)]
    show some (str (fold (bs (str (saysL (bs s)))))) = _
    rw [bs_str]
  have htz : (tagL (bs a)).length = a.size + 2 := by simp [tagL, bs_length]
  have hk : strings_Contains.f (str (fold (saysL (bs s)))) (str (tagL (bs a))) = some (Lib.contains (fold (saysL (bs s))) (tagL (bs a))) := by
    unfold strings_Contains.f
    rw [str_size, fold_length, if_pos (by omega)]
    show some (Lib.contains (bs (str _)) (bs (str _))) = _
    rw [bs_str, bs_str]
  have ht : strings_Trim.f (str (saysL (bs s))) ⟨#[32]⟩ = some (str (Lib.trimS (saysL (bs s)) [32])) := by
    unfold strings_Trim.f
    rw [str_size, if_pos (by omega), if_pos (by decide), if_pos (by decide)]
    show some (str (Lib.trimS (bs (str _)) _)) = _
    rw [bs_str]
  have h3 := trimS_len (saysL (bs s)) [32]
  have hp := tagPut_len (tagL (bs a)) (saysL (bs s))
  have hz1 : (str (tagL (bs a)) ++ (⟨#[32]⟩ : ByteArray)) = str (tagL (bs a) ++ [32]) := str_app _ [32]
  have hr : strings_TrimRight.f (str ((tagL (bs a) ++ [32]) ++ Lib.trimS (saysL (bs s)) [32])) ⟨#[32]⟩ = some (str (tagPut (tagL (bs a)) (saysL (bs s)))) := by
    unfold strings_TrimRight.f
    rw [str_size, if_pos (by simp only [List.length_append, List.length_singleton]; omega), if_pos (by decide), if_pos (by decide)]
    show some (str (Lib.trimRightS (bs (str _)) _)) = _
    rw [bs_str]
    unfold tagPut
    simp only [List.append_assoc, List.singleton_append]
  unfold dress_Subject.f subjS
  rw [decode_is s (by omega), Option.bind_some, hc, Option.bind_some, hf, Option.bind_some, tag_is a (by omega), Option.bind_some, hk, Option.bind_some]
  cases hx : Lib.contains (fold (saysL (bs s))) (tagL (bs a)) with
  | true => rw [if_pos rfl, if_pos rfl]
  | false =>
    simp only [Bool.false_eq_true, if_false]
    rw [Option.bind_some, if_pos (by rw [str_size]; omega), ht, Option.bind_some, hz1, if_pos (by rw [str_size, str_size]; simp only [List.length_append, List.length_singleton]; omega), str_app, hr, Option.bind_some, encode_is _ (by rw [str_size]; omega), Option.bind_some]
/-! Texts of good signs none of which is a control. -/
def gd (r : Nat) : Prop := okR r ∧ control r = false
def G (l : Bytes) : Prop := ∃ rs, (∀ r ∈ rs, gd r) ∧ l = enc rs
theorem enc_cut : ∀ (rs : List Nat) (a : Bytes) (c : UInt8) (b : Bytes), (∀ r ∈ rs, okR r) → c.toNat < 128 → a ++ c :: b = enc rs → ∃ ra rb, rs = ra ++ c.toNat :: rb ∧ a = enc ra ∧ b = enc rb
  | [], a, c, b, _, _, e => by
    have := congrArg List.length e
    simp [enc] at this
  | r :: rs, a, c, b, ok, hc, e => by
    have okr := ok r List.mem_cons_self
    have okt : ∀ x ∈ rs, okR x := fun x hx => ok x (List.mem_cons_of_mem _ hx)
    rw [enc_cons] at e
    rcases List.append_eq_append_iff.1 e with ⟨d, h1, h2⟩ | ⟨d, h1, h2⟩
    · cases d with
      | nil =>
        obtain ⟨ra, rb, e1, e2, e3⟩ := enc_cut rs [] c b okt hc (by simpa using h2)
        rw [List.append_nil] at h1
        exact ⟨r :: ra, rb, by rw [e1]; rfl, by rw [enc_cons, ← e2, List.append_nil, h1], e3⟩
      | cons x d =>
        injection h2 with hx hb
        subst hx
        have hmem : c ∈ er r := by rw [h1]; simp
        rcases Nat.lt_or_ge r 128 with hr | hr
        · rw [er_low r hr] at h1
          have hl := congrArg List.length h1
          simp at hl
          obtain ⟨rfl, rfl⟩ : a = [] ∧ d = [] := ⟨List.eq_nil_of_length_eq_zero (by omega), List.eq_nil_of_length_eq_zero (by omega)⟩
          have hcr : c.toNat = r := by
            injection h1 with h1 _
            rw [← h1]
            simp
            omega
          exact ⟨[], rs, by rw [hcr]; rfl, rfl, by simpa using hb⟩
        · have := er_high r okr hr c hmem
          omega
    · obtain ⟨ra, rb, e1, e2, e3⟩ := enc_cut rs d c b okt hc h2.symm
      exact ⟨r :: ra, rb, by rw [e1]; rfl, by rw [h1, enc_cons, e2], e3⟩
theorem G_nil : G [] := ⟨[], by simp, rfl⟩
theorem G_app {a b : Bytes} (ha : G a) (hb : G b) : G (a ++ b) := by
  obtain ⟨x, hx, rfl⟩ := ha
  obtain ⟨y, hy, rfl⟩ := hb
  exact ⟨x ++ y, fun r hr => (List.mem_append.1 hr).elim (hx r) (hy r), (enc_app x y).symm⟩
theorem G_cut {a b : Bytes} {c : UInt8} (hc : c.toNat < 128) (h : G (a ++ c :: b)) : G a ∧ G b := by
  obtain ⟨rs, ok, e⟩ := h
  obtain ⟨ra, rb, rfl, rfl, rfl⟩ := enc_cut rs a c b (fun r hr => (ok r hr).1) hc e
  exact ⟨⟨ra, fun r hr => ok r (List.mem_append_left _ hr), rfl⟩, ⟨rb, fun r hr => ok r (List.mem_append_right _ (List.mem_cons_of_mem _ hr)), rfl⟩⟩
theorem G_ink : ∀ l : Bytes, (l.all fun c => decide (32 ≤ c.toNat) && decide (c.toNat ≤ 126)) = true → G l
  | [], _ => G_nil
  | c :: l, h => by
    rw [List.all_cons, Bool.and_eq_true, Bool.and_eq_true, decide_eq_true_eq, decide_eq_true_eq] at h
    have e : er c.toNat = [c] := by rw [er_low _ (by omega)]; simp
    refine G_app (a := [c]) ⟨[c.toNat], ?_, by simp [enc, e]⟩ (G_ink l h.2)
    intro r hr
    rw [List.mem_singleton] at hr
    rw [hr]
    refine ⟨.inl (by omega), ?_⟩
    unfold control
    simp
    omega
theorem clR_gd (r : Nat) : control (clR r) = false := by
  unfold clR
  split
  · decide
  · next h => simpa using h
theorem runesFrom_gd (s : ByteArray) : ∀ n i, ∀ r ∈ runesFrom s n i, control r = false
  | 0, _ => by simp [runesFrom]
  | n + 1, i => by
    unfold runesFrom
    split
    · intro r hr
      rcases List.mem_cons.1 hr with rfl | hr
      · exact clR_gd _
      · exact runesFrom_gd s n _ r hr
    · simp
theorem G_clean (s : ByteArray) : G (clean s) := ⟨runesFrom s s.size 0, fun r hr => ⟨runesFrom_ok s _ _ r hr, runesFrom_gd s _ _ r hr⟩, cleanFrom_runes s _ _⟩
theorem clean_from : ∀ (rs d : List Nat) (f : Nat), (∀ r ∈ rs, gd r) → (enc rs).length ≤ f → cleanFrom (str (enc (d ++ rs))) f (enc d).length = enc rs
  | [], d, f, _, _ => cleanFrom_end _ _ _ (end_enc d)
  | r :: rs, d, f, ok, hf => by
    have hp := er_pos r
    rw [enc_cons, List.length_append] at hf
    obtain ⟨f, rfl⟩ : ∃ j, f = j + 1 := ⟨f - 1, by omega⟩
    have ih := clean_from rs (d ++ [r]) f (fun x hx => ok x (List.mem_cons_of_mem _ hx)) (by omega)
    have hd := dec_enc d r rs (ok r (by simp)).1
    have hcl : cleanR r = er r := by
      rw [cleanR_er]
      unfold clR
      rw [(ok r (by simp)).2]
      rfl
    rw [cleanFrom, if_pos (pos_enc d r rs), show sign (str (enc (d ++ r :: rs))) (enc d).length = r by unfold sign; rw [hd], show width (str (enc (d ++ r :: rs))) (enc d).length = (er r).length by unfold width; rw [hd], next_enc, hcl, show d ++ r :: rs = (d ++ [r]) ++ rs by simp, ih, enc_cons]
theorem clean_G {l : Bytes} (h : G l) : clean (str l) = l := by
  obtain ⟨rs, ok, rfl⟩ := h
  have := clean_from rs [] (str (enc rs)).size ok (by rw [str_size]; exact Nat.le_refl _)
  simpa [clean, enc] using this
theorem G_V {l : Bytes} (h : G l) : V l := by
  obtain ⟨rs, ok, e⟩ := h
  exact ⟨rs, fun r hr => (ok r hr).1, e⟩
theorem G_trimL {l : Bytes} (h : G l) : G (Lib.trimLeftS l [32]) := by
  unfold Lib.trimLeftS
  induction l with
  | nil => exact h
  | cons c r ih =>
    rw [List.dropWhile_cons]
    split
    · next hc =>
      have : c.toNat < 128 := by
        have := forall_byte (p := fun c => [32].contains c = true → c.toNat < 128) (by decide +kernel) c
        exact this hc
      exact ih (G_cut (a := []) this h).2
    · exact h
theorem G_trimRr : ∀ (l : Bytes), G l.reverse → G (l.dropWhile ([32].contains ·)).reverse
  | [], h => h
  | c :: r, h => by
    rw [List.dropWhile_cons]
    split
    · next hc =>
      have hc' : c.toNat < 128 := by
        have := forall_byte (p := fun c => [32].contains c = true → c.toNat < 128) (by decide +kernel) c
        exact this hc
      rw [List.reverse_cons] at h
      exact G_trimRr r (G_cut (b := []) hc' h).1
    · exact h
theorem G_trimR {l : Bytes} (h : G l) : G (Lib.trimRightS l [32]) := by
  unfold Lib.trimRightS
  exact G_trimRr l.reverse (by rwa [List.reverse_reverse])
theorem trimR_keeps (a u : Bytes) (c : UInt8) (hc : [32].contains c = false) : Lib.trimRightS (a ++ c :: u) [32] = a ++ c :: Lib.trimRightS u [32] := by
  unfold Lib.trimRightS
  rw [List.reverse_append, List.reverse_cons, List.append_assoc, List.dropWhile_append]
  split
  · next h =>
    have h' : u.reverse.dropWhile (fun x => [32].contains x) = [] := by simpa using h
    rw [h', List.singleton_append, List.dropWhile_cons, if_neg (by rw [hc]; decide)]
    simp
  · simp
theorem index_front (a b : Bytes) (h : a ≠ []) : Lib.contains (a ++ b) a = true := by
  unfold Lib.contains
  rw [decide_eq_true_eq]
  cases a with
  | nil => exact absurd rfl h
  | cons c l =>
    rw [List.cons_append, Lib.index, if_pos (by rw [List.isPrefixOf_iff_prefix]; exact ⟨b, rfl⟩)]
    exact Int.le_refl _
def nameC (c : UInt8) : Bool := (decide (97 ≤ c.toNat) && decide (c.toNat ≤ 122)) || ((decide (48 ≤ c.toNat) && decide (c.toNat ≤ 57)) || c == 45)
theorem tag_fold {a : Bytes} (h : a.all nameC = true) : fold (tagL a) = tagL a := by
  unfold fold tagL
  rw [List.map_cons, List.map_append, show foldB 91 = 91 from rfl, show [93].map foldB = [93] from rfl]
  congr 2
  rw [List.all_eq_true] at h
  have : ∀ c ∈ a, foldB c = c := fun c hc => (forall_byte (p := fun c => nameC c = true → foldB c = c) (by decide +kernel) c) (h c hc)
  exact (List.map_congr_left this).trans (List.map_id' a)
theorem tag_G {a : Bytes} (h : a.all nameC = true) : G (tagL a) := by
  apply G_ink
  unfold tagL
  rw [List.all_cons, List.all_append]
  have : (a.all fun c => decide (32 ≤ c.toNat) && decide (c.toNat ≤ 126)) = true := by
    rw [List.all_eq_true] at h ⊢
    exact fun c hc => (forall_byte (p := fun c => nameC c = true → (decide (32 ≤ c.toNat) && decide (c.toNat ≤ 126)) = true) (by decide +kernel) c) (h c hc)
  rw [this]
  decide
theorem tput_is (t' y : Bytes) : tagPut (t' ++ [93]) y = (t' ++ [93]) ++ Lib.trimRightS (32 :: Lib.trimS y [32]) [32] := by
  have := trimR_keeps t' (32 :: Lib.trimS y [32]) 93 (by decide)
  unfold tagPut
  simpa using this
theorem tput_G {a : Bytes} (s : ByteArray) (h : a.all nameC = true) : G (tagPut (tagL a) (clean s)) := by
  rw [show tagL a = (91 :: a) ++ [93] from rfl, tput_is, show (91 :: a) ++ [93] = tagL a from rfl]
  exact G_app (tag_G h) (G_trimR (G_app (a := [32]) (G_ink [32] (by decide)) (G_trimL (G_trimR (G_clean _)))))
theorem tput_back {Y : Bytes} (hG : G Y) : decodeL (bs (str (encL (str Y)))) = Y ∧ saysL (bs (str (encL (str Y)))) = Y := by
  have h : decodeL (bs (str (encL (str Y)))) = Y := by rw [bs_str, dec_enc_is, raw_valid (valid_of_V (G_V hG)), bs_str]
  refine ⟨h, ?_⟩
  unfold saysL
  rw [h]
  exact clean_G hG
theorem subj_has (a s : ByteArray) (h : (bs a).all nameC = true) : Lib.contains (fold (saysL (bs (subjS a s)))) (tagL (bs a)) = true := by
  unfold subjS
  split
  · next h1 => exact h1
  · have hG : G (tagPut (tagL (bs a)) (saysL (bs s))) := tput_G _ h
    rw [(tput_back hG).2, show tagL (bs a) = (91 :: bs a) ++ [93] from rfl, tput_is]
    unfold fold
    rw [List.map_append]
    show Lib.contains (fold (tagL (bs a)) ++ _) (tagL (bs a)) = true
    rw [tag_fold h]
    exact index_front _ _ (by simp [tagL])
theorem subj_says (a s : ByteArray) (ha : a.size ≤ 1000) (hs : s.size ≤ 5000) (h : (bs a).all nameC = true) : (decodeL (bs (subjS a s))).length ≤ 10000000 ∧ (saysL (bs (subjS a s))).length ≤ 10000000 := by
  have h1 := decodeL_len (bs s)
  rw [bs_length] at h1
  have h2 := saysL_len (bs s)
  rw [bs_length] at h2
  have hp := tagPut_len (tagL (bs a)) (saysL (bs s))
  have htz : (tagL (bs a)).length = a.size + 2 := by simp [tagL, bs_length]
  unfold subjS
  split
  · omega
  · have hG : G (tagPut (tagL (bs a)) (saysL (bs s))) := tput_G _ h
    rw [(tput_back hG).1, (tput_back hG).2]
    omega
theorem subj_size (a s : ByteArray) (ha : a.size ≤ 1000) (hs : s.size ≤ 5000) : (subjS a s).size ≤ 200000000 := by
  have h2 := saysL_len (bs s)
  rw [bs_length] at h2
  have hp := tagPut_len (tagL (bs a)) (saysL (bs s))
  have htz : (tagL (bs a)).length = a.size + 2 := by simp [tagL, bs_length]
  unfold subjS
  split
  · omega
  · have := encL_len (str (tagPut (tagL (bs a)) (saysL (bs s))))
    rw [str_size] at this ⊢
    omega
theorem subject_same (a t : ByteArray) (ha : a.size ≤ 1000) (ht : t.size ≤ 1000000000) (h1 : (decodeL (bs t)).length ≤ 10000000) (h2 : (saysL (bs t)).length ≤ 10000000) (h : Lib.contains (fold (saysL (bs t))) (tagL (bs a)) = true) : dress_Subject.f a t = some t := by
  have hc : glyph_Clean.f (str (decodeL (bs t))) = some (str (saysL (bs t))) := by unfold glyph_Clean.f; rw [str_size, if_pos (by omega)]; rfl
  have hf : glyph_Fold.f (str (saysL (bs t))) = some (str (fold (saysL (bs t)))) := by
    unfold glyph_Fold.f
    rw [str_size, if_pos (by omega)]
    show some (str (fold (bs (str (saysL (bs t)))))) = _
    rw [bs_str]
  have hk : strings_Contains.f (str (fold (saysL (bs t)))) (str (tagL (bs a))) = some (Lib.contains (fold (saysL (bs t))) (tagL (bs a))) := by
    unfold strings_Contains.f
    rw [str_size, fold_length, if_pos (by omega)]
    show some (Lib.contains (bs (str _)) (bs (str _))) = _
    rw [bs_str, bs_str]
  unfold dress_Subject.f
  rw [decode_is t ht, Option.bind_some, hc, Option.bind_some, hf, Option.bind_some, tag_is a (by omega), Option.bind_some, hk, Option.bind_some, h, if_pos rfl]
end Go.Proofs.YtihabmcaplnbcaaDoor.Pl
set_option linter.unusedVariables false
set_option linter.unusedSimpArgs false
namespace Go.Proofs.YtihabmcaplnbcaaDoor.Pl
open Go.RowKit Go.Proofs.YtihabmcaplnbcaaDoorW.PrintWords Go.Proofs.YtihabmcaplnbcaaDoor.Fn

theorem works36 : bulletinlaw36_works.f = some true := by decide +kernel
theorem suffix_total (s p : ByteArray) (hs : s.size ≤ 140737488355328) (hp : p.size ≤ 1000) : ∃ b, strings_HasSuffix.f s p = some b := by
  unfold strings_HasSuffix.f stringslite_HasSuffix.f
  by_cases h : (s.size : Int) ≥ (p.size : Int)
  · have hw : wrap64 ((s.size : Int) - (p.size : Int)) = (s.size : Int) - (p.size : Int) := wrap_id (by omega) (by omega)
    rw [if_pos h, hw, if_pos (by omega), if_pos (by omega)]
    exact ⟨_, rfl⟩
  · rw [if_neg h]
    exact ⟨_, rfl⟩
theorem name_l1 (s : ByteArray) (hs : s.size ≤ 140737488355328) : ∀ (d j k : Nat), j + d = 6 → 2 ≤ j → d + 1 ≤ k → ∃ b, verp_Name.l1 k s (j : Int) = some b ∧ (b = true → s.size ≤ 20)
  | 0, j, k, hj, h2, hk => by
    obtain ⟨k, rfl⟩ : ∃ i, k = i + 1 := ⟨k - 1, by omega⟩
    rw [verp_Name.l1, if_neg (by omega)]
    split
    · exact ⟨false, rfl, fun h => absurd h (by decide)⟩
    · refine ⟨_, rfl, fun h => ?_⟩
      have := of_decide_eq_true h
      omega
  | d + 1, j, k, hj, h2, hk => by
    obtain ⟨k, rfl⟩ : ∃ i, k = i + 1 := ⟨k - 1, by omega⟩
    have hsf : ∃ p, verp_suffix.f (j : Int) = some p ∧ p.size ≤ 1000 := by
      rcases (show j = 2 ∨ j = 3 ∨ j = 4 ∨ j = 5 by omega) with rfl | rfl | rfl | rfl <;> exact ⟨_, rfl, by decide⟩
    obtain ⟨p, hp, hpz⟩ := hsf
    obtain ⟨b, hb⟩ := suffix_total s p hs hpz
    rw [verp_Name.l1, if_pos (by omega), hp, Option.bind_some, hb, Option.bind_some]
    cases b with
    | true => exact ⟨false, rfl, fun h => absurd h (by decide)⟩
    | false =>
      simp only [Bool.false_eq_true, if_false]
      rw [wrap_succ j (by omega)]
      exact name_l1 s hs d (j + 1) k (by omega) (by omega) (by omega)
theorem small_is (c : UInt8) : ∃ b, verp_small.f (c.toNat : Int) = some b ∧ (b = true → nameC c = true) := by
  have h1 := forall_byte (p := fun c => (verp_small.f (c.toNat : Int)).isSome = true) (by decide +kernel) c
  have h2 := forall_byte (p := fun c => verp_small.f (c.toNat : Int) = some true → nameC c = true) (by decide +kernel) c
  obtain ⟨b, hb⟩ := Option.isSome_iff_exists.1 h1
  exact ⟨b, hb, fun h => h2 (by rw [hb, h])⟩
theorem name_l0 (s : ByteArray) (hs : s.size ≤ 140737488355328) : ∀ (rest : Bytes) (i k : Nat), (bs s).drop i = rest → i ≤ s.size → rest.length + 10 ≤ k → ∃ b, verp_Name.l0 k s (s.size : Int) (i : Int) = some b ∧ (b = true → s.size ≤ 20 ∧ rest.all nameC = true)
  | [], i, k, hd, hi, hk => by
    obtain ⟨k, rfl⟩ : ∃ j, k = j + 1 := ⟨k - 1, by omega⟩
    have := drop_nil hd
    rw [bs_length] at this
    obtain ⟨b, hb, h20⟩ := name_l1 s hs 4 2 k rfl (by omega) (by simp at hk; omega)
    rw [verp_Name.l0, if_neg (by omega)]
    exact ⟨b, hb, fun h => ⟨h20 h, rfl⟩⟩
  | c :: r, i, k, hd, hi, hk => by
    obtain ⟨k, rfl⟩ : ∃ j, k = j + 1 := ⟨k - 1, by omega⟩
    obtain ⟨h1, _, h3, _⟩ := drop_cons hd
    rw [bs_length] at h1
    obtain ⟨t, ht, hn⟩ := small_is c
    obtain ⟨b, hb, hih⟩ := name_l0 s hs r (i + 1) k h3 (by omega) (by simp at hk; omega)
    have hw : wrap64 ((i : Int) + 1) = ((i + 1 : Nat) : Int) := by rw [wrap_id (by omega) (by omega)]; omega
    have hw2 : wrap64 ((s.size : Int) - 1) = (s.size : Int) - 1 := wrap_id (by omega) (by omega)
    rw [verp_Name.l0, if_pos (by omega), if_pos (by omega), if_pos (by omega), bt_drop hd, ht, Option.bind_some, hw, hw2, hb]
    clear hw hw2
    cases t with
    | true =>
      rw [if_pos rfl]
      refine ⟨b, rfl, fun h => ?_⟩
      obtain ⟨a1, a2⟩ := hih h
      exact ⟨a1, by rw [List.all_cons, hn rfl, a2]; rfl⟩
    | false =>
      simp only [Bool.false_eq_true, if_false]
      by_cases h45 : (c.toNat : Int) = 45
      · have hc : nameC c = true := (forall_byte (p := fun c => (c.toNat : Int) = 45 → nameC c = true) (by decide +kernel) c) h45
        rw [if_pos h45]
        split
        · exact ⟨false, rfl, fun h => absurd h (by decide)⟩
        · split
          · exact ⟨false, rfl, fun h => absurd h (by decide)⟩
          · refine ⟨b, rfl, fun h => ?_⟩
            obtain ⟨a1, a2⟩ := hih h
            exact ⟨a1, by rw [List.all_cons, hc, a2]; rfl⟩
      · rw [if_neg h45]
        exact ⟨false, rfl, fun h => absurd h (by decide)⟩
theorem dressonce_l0 (a t S T : ByteArray) (hS : S.size ≤ 200000000) (hT : T.size ≤ 1000) (hsub : dress_Subject.f a t = some t) : ∀ (d : Nat) (i k : Nat) (has : Bool), i + d = S.size + 1 → d + 1 ≤ k → (has = true ∨ ∃ p, i ≤ p ∧ p + T.size ≤ S.size ∧ (S.extract p (p + T.size)).toList = T.toList) →
    bulletinlaw36_DressOnce.l0 k a t S T has (i : Int) = some true := by
  intro d
  induction d with
  | zero =>
    intro i k has hi hk hh
    obtain ⟨k, rfl⟩ : ∃ j, k = j + 1 := ⟨k - 1, by omega⟩
    have hhas : has = true := by
      rcases hh with h | ⟨p, h1, h2, _⟩
      · exact h
      · omega
    have hw : wrap64 ((i : Int) + (T.size : Int)) = ((i + T.size : Nat) : Int) := by rw [wrap_id (by omega) (by omega)]; omega
    rw [bulletinlaw36_DressOnce.l0, hw, if_neg (by omega), if_pos hhas, hsub, Option.bind_some]
    simp
  | succ d ih =>
    intro i k has hi hk hh
    obtain ⟨k, rfl⟩ : ∃ j, k = j + 1 := ⟨k - 1, by omega⟩
    have hw : wrap64 ((i : Int) + (T.size : Int)) = ((i + T.size : Nat) : Int) := by rw [wrap_id (by omega) (by omega)]; omega
    rw [bulletinlaw36_DressOnce.l0, hw, wrap_succ i (by omega)]
    by_cases hlt : i + T.size ≤ S.size
    · rw [if_pos (by omega)]
      cases has with
      | true =>
        rw [if_pos rfl]
        exact ih (i + 1) k true (by omega) (by omega) (.inl rfl)
      | false =>
        simp only [Bool.false_eq_true, if_false]
        rw [if_pos (by omega), if_pos (by omega), Int.toNat_natCast, Int.toNat_natCast]
        refine ih (i + 1) k _ (by omega) (by omega) ?_
        rcases hh with h | ⟨p, h1, h2, h3⟩
        · cases h
        · by_cases hp : p = i
          · left
            rw [← hp]
            exact beq_iff_eq.2 h3
          · exact .inr ⟨p, by omega, h2, h3⟩
    · have hhas : has = true := by
        rcases hh with h | ⟨p, h1, h2, _⟩
        · exact h
        · omega
      rw [if_neg (by omega), if_pos hhas, hsub, Option.bind_some]
      simp
theorem contains_at {s t : Bytes} (h : Lib.contains s t = true) : ∃ p, p + t.length ≤ s.length ∧ (s.drop p).take t.length = t := by
  unfold Lib.contains at h
  rw [decide_eq_true_eq] at h
  have hr := Lib.index_room s t h
  rcases Lib.index_spec s t with ⟨h1, _⟩ | ⟨i, h1, h2, h3, _⟩
  · omega
  · unfold Lib.occAt at h3
    rw [List.isPrefixOf_iff_prefix] at h3
    exact ⟨i, by omega, (List.prefix_iff_eq_take.1 h3).symm⟩
theorem DressOnce (a s : ByteArray) (ha : a.size ≤ 140737488355328) : ∃ k, bulletinlaw36_DressOnce.f k a s = some true := by
  refine ⟨a.size + 1000000000, ?_⟩
  generalize hK : a.size + 1000000000 = K
  obtain ⟨b, hb, hn⟩ := name_l0 a ha (bs a) 0 K rfl (Nat.zero_le _) (by rw [bs_length]; omega)
  have hnm : verp_Name.f K a = some b := hb
  obtain ⟨K, rfl⟩ : ∃ j, K = j + 1 := ⟨K - 1, by omega⟩
  unfold bulletinlaw36_DressOnce.f
  rw [works36, Option.bind_some, if_pos rfl, hnm, Option.bind_some]
  cases b with
  | false =>
    simp only [Bool.false_eq_true, if_false]
    rw [bulletinlaw36_DressOnce.j0, if_pos rfl]
  | true =>
    obtain ⟨h20, hnc⟩ := hn rfl
    rw [if_pos rfl, bulletinlaw36_DressOnce.j0]
    by_cases h500 : (s.size : Int) > 500
    · rw [if_pos (decide_eq_true h500)]
    · have hz := subj_size a s (by omega) (by omega)
      obtain ⟨q1, q2⟩ := subj_says a s (by omega) (by omega) hnc
      have hc := subj_has a s hnc
      have htag : str (tagL (bs a)) = ((⟨#[91]⟩ : ByteArray) ++ a) ++ (⟨#[93]⟩ : ByteArray) := by
        apply bs_inj
        rw [bs_app, bs_app, bs_str]
        simp [bs, tagL]
      have h1 : glyph_Clean.f (str (decodeL (bs (subjS a s)))) = some (str (saysL (bs (subjS a s)))) := by unfold glyph_Clean.f; rw [str_size, if_pos (by omega)]; rfl
      have h2 : glyph_Fold.f (str (saysL (bs (subjS a s)))) = some (str (fold (saysL (bs (subjS a s))))) := by
        unfold glyph_Fold.f
        rw [str_size, if_pos (by omega)]
        show some (str (fold (bs (str (saysL (bs (subjS a s))))))) = _
        rw [bs_str]
      have hz1 : ((⟨#[91]⟩ : ByteArray) ++ a).size = 1 + a.size := by rw [ByteArray.size_append]; rfl
      obtain ⟨p, p1, p2⟩ := contains_at hc
      rw [if_neg (by rw [decide_eq_false h500]; decide), subject_is a s (by omega) (by omega), Option.bind_some, decode_is _ (by omega), Option.bind_some, h1, Option.bind_some, h2, Option.bind_some, if_pos (by omega), if_pos (by rw [hz1]; omega), ← htag]
      have htz : (tagL (bs a)).length = a.size + 2 := by simp [tagL, bs_length]
      have hfl : (fold (saysL (bs (subjS a s)))).length = (saysL (bs (subjS a s))).length := fold_length _
      refine dressonce_l0 a _ _ _ (by rw [str_size]; omega) (by rw [str_size]; omega) (subject_same a _ (by omega) (by omega) q1 q2 hc) ((str (fold (saysL (bs (subjS a s))))).size + 1) 0 K false (by omega) (by rw [str_size]; omega) (.inr ⟨p, Nat.zero_le _, by rw [str_size, str_size]; exact p1, ?_⟩)
      rw [str_size, toList_bs, bs_extract, bs_str, toList_str, List.drop_take, Nat.add_sub_cancel_left]
      exact p2
end Go.Proofs.YtihabmcaplnbcaaDoor.Pl
